/-
  SpanPlays: every script of numbers that come and go has the document's ranges; a nil set's, too. For every input; no condition.
-/
import Derived.Test.YtcmkegkljappfaaSnil
namespace Go.Proofs.Ytcmkegkljappfaa
open Go.RowKit
set_option linter.unusedVariables false
set_option linter.unusedSimpArgs false

open Go.ChangeShapes Go.WideShapes Go.ChangeAt in
theorem nums_of {H : Type} {enc : TypeId × Value → H} {W : World} {A : Option Addr} {len cap : Nat} {d1 : DataW H} {p1 : List MemPlace}
    (h : DataW.Trod enc Try.prog W 0 (fun _ => true) true 49 (.slice A len cap) d1 p1) : ∃ l, Rd W .u64 (.slice A len cap) l ∧ ∀ x ∈ l, 0 ≤ x ∧ x ≤ 18446744073709551615 := by
  obtain ⟨fuel, hf⟩ := h
  rcases open_ints Try.underlying49 Try.underlying28 (by kernel_rfl) hf with ⟨hcs, _⟩ | ⟨x, l, c, zs, hcs, _, hl, hm, hz, _, hcell, hwz⟩
  · simp [Value.cells] at hcs
    obtain ⟨rfl, rfl, rfl⟩ := hcs
    exact ⟨[], Rd.nil _ _, fun x hx => by simp at hx⟩
  · simp [Value.cells] at hcs
    obtain ⟨rfl, rfl, rfl⟩ := hcs
    have hz' : zs.length = cap := by simpa using hz
    have hlen : (zs.take len).length = len := by simp; omega
    refine ⟨zs.take len, ⟨some x, cap, by rw [hlen], by omega, hm, fun e => (by cases e), fun i hi => ?_⟩, fun n hn => bounds_u64 (hwz n (List.mem_of_mem_take hn))⟩
    rw [hlen] at hi
    have hc := hcell i (by omega)
    have hsp : x.spot = none := by
      have h0 := World.cell?_spot (hcell 0 (by omega))
      simpa [Addr.add] using h0
    obtain ⟨b, o, s⟩ := x
    simp only at hsp
    subst hsp
    have hlt := World.block_lt_of_cell? W _ hc
    rw [addr_add] at hc hlt
    refine ⟨b, o, rfl, hlt, fun j hj => ?_⟩
    obtain rfl : j = 0 := by omega
    rw [show o + (i * 1 + 0) = o + i by omega, hc]
    simp [List.getD, List.getElem?_take, hi]


theorem cnt_rev (L : List (Int × Int)) : cnt L.reverse = cnt L := by
  induction L with
  | nil => rfl
  | cons r T ih => rw [List.reverse_cons, cnt_app, ih]; simp only [cnt]; omega
theorem cnt_revs {L : List (Int × Int)} (h : Nm 0 L) (k : Nat) : 0 ≤ cnt (L.reverse.take k) ∧ cnt (L.reverse.take k) ≤ 4611686018427387904 := by
  have e : L.reverse.take k = (L.drop (L.length - k)).reverse := by rw [List.take_reverse]
  rw [e, cnt_rev]
  have := cnt_ok (h.drop (L.length - k)) (L.drop (L.length - k)).length
  rwa [List.take_length] at this
theorem rg_dd {L : List (Int × Int)} {m : Int} {kk dd : Nat} (hk : (kk : Int) = max m 0) (hd : dd = min L.length kk) : rgL m L = L.reverse.take dd := by
  unfold rgL
  have e : (max m 0).toNat = kk := by omega
  rw [e, hd]
  rcases Nat.le_total kk L.length with h | h
  · rw [Nat.min_eq_right h]
  · rw [Nat.min_eq_left h, List.take_of_length_le (by simp; omega), List.take_of_length_le (by simp)]
theorem top_head {L : List (Int × Int)} (h : 0 < L.length) : (L.reverse.getD 0 (0, 0)).2 = topL L := by
  unfold topL
  rw [rev_at h]
  rfl
section
variable {B : Nat} {w9 W : World} {g : Nat} {rb : Option Nat} {L : List (Int × Int)} {n : Nat}
theorem pl_len (hT : n = L.length) (hs : SetR B w9 g rb L) (hb : Below w9.heap.size w9 W) : Calls Try.prog 18 #[.pointer (some ⟨g, 0, none⟩)] W fun e w' => e = .returned (.int .i64 n) ∧ Below w9.heap.size w9 w' :=
  (len_any B g rb L W (hs.below hb)).mono fun e w' ⟨h, h2⟩ => ⟨by rw [h, hT], h2 ▸ hb⟩
theorem pl_rg {M : Int} {K : List (Int × Int)} (hK : rgL M L = K) (hT : L.length ≤ 30) (hs : SetR B w9 g rb L) (hb : Below w9.heap.size w9 W) : Calls Try.prog 13 #[.pointer (some ⟨g, 0, none⟩), .int .i64 M] W fun e w' => ∃ v, e = .returned v ∧ RdP w' v K ∧ Below w9.heap.size w9 w' := by
  refine (ranges_any B g rb L M W (hs.below hb) (by omega)).mono ?_
  rintro e w' ⟨v, rfl, ho, hb'⟩
  rw [hK] at ho
  exact ⟨v, rfl, rdp_of_own ho, hb.trans (hb'.mono hb.size)⟩
theorem pl_same {va vb : Value} {l : List (Int × Int)} (ha : RdP W va l) (hb : RdP W vb l) (h : Below w9.heap.size w9 W) : Calls Try.prog 12 #[va, vb] W fun e w' => e = .returned (.bool true) ∧ Below w9.heap.size w9 w' :=
  (sameR_yes va vb l W ha hb).mono fun e w' ⟨h1, n, h2⟩ => ⟨h1, h2 ▸ below_drewN h n⟩
theorem pl_cnt {c : Int} (hc : c = cnt L) (hN : Nm 0 L) (hs : SetR B w9 g rb L) (hb : Below w9.heap.size w9 W) : Calls Try.prog 21 #[.pointer (some ⟨g, 0, none⟩)] W fun e w' => e = .returned (.int .u64 c) ∧ Below w9.heap.size w9 w' :=
  (count_any B g rb L W (hs.below hb) hN).mono fun e w' ⟨h, h2⟩ => ⟨by rw [h, hc], hb.trans (h2.mono hb.size)⟩
end
section
variable {w9 W : World}
theorem nl_rg {M : Int} (hb : Below w9.heap.size w9 W) : Calls Try.prog 13 #[.pointer none, .int .i64 M] W fun e w' => e = .returned (.slice none 0 0) ∧ Below w9.heap.size w9 w' :=
  (ranges_nil M W).mono fun e w' ⟨h, h2⟩ => ⟨h, hb.trans (h2.mono hb.size)⟩
theorem nl_same (hb : Below w9.heap.size w9 W) : Calls Try.prog 12 #[.slice none 0 0, .slice none 0 0] W fun e w' => e = .returned (.bool true) ∧ Below w9.heap.size w9 w' :=
  pl_same (RdP.nil _) (RdP.nil _) hb
theorem nl_len (hb : Below w9.heap.size w9 W) : Calls Try.prog 18 #[.pointer none] W fun e w' => e = .returned (.int .i64 0) ∧ Below w9.heap.size w9 w' :=
  (len_nil W).mono fun e w' ⟨h, h2⟩ => ⟨h, h2 ▸ hb⟩
theorem nl_cnt (hb : Below w9.heap.size w9 W) : Calls Try.prog 21 #[.pointer none] W fun e w' => e = .returned (.int .u64 0) ∧ Below w9.heap.size w9 w' :=
  (count_nil W).mono fun e w' ⟨h, h2⟩ => ⟨h, h2 ▸ hb⟩
end
set_option maxHeartbeats 16000000 in
set_option maxRecDepth 100000 in
theorem plays_sets (A : Option Addr) (N cap : Nat) (d f t : Nat → Int) (m : Int) (v : Value) (l : List Int) (w : World) (hS : Scr w A N d f t) (hN0 : N ≤ 9223372036854775807) (hm : -9223372036854775808 ≤ m ∧ m ≤ 9223372036854775807) (hv : Rd w .u64 v l) (hl : ∀ x ∈ l, 0 ≤ x ∧ x ≤ 18446744073709551615) :
    Calls Try.prog 8 #[.bool false, .slice A N cap, .int .i64 m, v] w fun e w' => e = .returned (.bool true) ∧ Below w.heap.size w w' := by
  obtain ⟨A3, cap3, rfl⟩ := hv.form
  obtain ⟨_, _, hc3a, hc3b, _⟩ := hv.rdv
  have hc3' : cap3 ≤ 9223372036854775807 := by unfold maxLen at hc3b; omega
  obtain ⟨q, hq⟩ : ∃ q, q = l.length := ⟨_, rfl⟩
  rw [← hq] at hv hc3a ⊢
  have HV := Lib.hid hv
  have HNL := Lib.hid hq
  clear hv hq hl hc3b
  have HS := Lib.hid hS
  clear hS
  go_enter Try.func8, Try.ntmps8
  go_wp2_with fail
  refine (awake_any _).mono ?_
  rintro e w1 ⟨rfl, hB1⟩
  go_wp2_with fail
  refine (new_any _ [] _ (RdP.nil _) (fun p hp => by simp at hp) (by decide)).mono ?_
  rintro e w2 ⟨g, rb0, rfl, hsa, hb2⟩
  have hsa := hsa.base hB1.size
  have hB2 := hB1.trans (hb2.mono hB1.size)
  have hbx := (Below.refl w2.heap.size w2).alloc (Nat.le_refl _) (.cells #[.slice none 0 0] 37)
  have hds : DS w.heap.size (w2.alloc (.cells #[.slice none 0 0] 37)) g rb0 [] w2.heap.size none [] := ⟨hsa.below hbx, rnewR (Below.refl _ _) hB2.size, fun q _ => by simp, Nat.le_trans hB2.size hbx.size⟩
  have hB3 := hB2.trans (hbx.mono hB2.size)
  obtain ⟨gx, hgx⟩ : ∃ gx, gx = w2.heap.size := ⟨_, rfl⟩
  rw [← hgx] at hds
  clear hbx hB1 hb2 hsa
  go_wp2_with fail
  rw [← hgx]
  clear hgx
  go_loopw [29] (fun sc wr => ∃ (k : Nat) (rb rx : Option Nat) (L R : List (Int × Int)), k ≤ N ∧ sc = .int .i64 k ∧ DS w.heap.size wr g rb L gx rx R ∧ Hid (Dp k L R) ∧ Below w.heap.size w wr) (fun sc _ => N - (intOf sc).toNat)
  case atStart => exact ⟨0, rb0, none, [], [], Nat.zero_le _, rfl, hds, Lib.hid Dp.start, hB3⟩
  case round =>
    clear hds hB3
    obtain ⟨k, rb, rx, L, R, hkN, rfl, hds, HD, hB⟩ := hrel
    by_cases hk : k < N
    · obtain ⟨bb, off, rfl, hbb, d0, d1, d2⟩ := (HS.out.below hB).at_ k hk
      have hdb := HS.out.db k hk
      have hfb := HS.out.fb k hk
      have htb := HS.out.tb k hk
      obtain ⟨dk, hdk⟩ : ∃ x, x = d k := ⟨_, rfl⟩
      obtain ⟨fk, hfk⟩ : ∃ x, x = f k := ⟨_, rfl⟩
      obtain ⟨tk, htk⟩ : ∃ x, x = t k := ⟨_, rfl⟩
      rw [← hdk] at d0 hdb
      rw [← hfk] at d1 hfb
      rw [← htk] at d2 htb
      clear hdk hfk htk
      have hbo := (Below.refl wr.heap.size wr).alloc (Nat.le_refl _) (.cells #[.int .u8 dk, .int .u64 fk, .int .u64 tk] 39)
      have hds1 := hds.below hbo
      have hBo := hB.trans (hbo.mono hB.size)
      have hsm := HD.out.small
      clear hbo
      by_cases h30 : k < 30
      · have h30' : (k : Int) < 30 := by omega
        have HD2 := Lib.hid (HD.out.step h30 (d := dk) (f := fk) (t := tk) hfb.1)
        go_wp2_with fail
        (with_reducible refine (do_any w.heap.size _ g gx rb rx L R dk fk tk hds1 HD.out.r (by omega) hsm.2 hdb hfb htb).mono ?_)
        rintro e w4 ⟨rb', rx', rfl, hds4, hb4⟩
        have hB4 := hBo.trans hb4
        clear d0 d1 d2 hds hds1 hBo hB hb4 HD
        go_wp2_with fail
        go_roundw
        case rel => exact ⟨k + 1, rb', rx', _, _, by omega, by go_num, hds4, HD2, hB4⟩
        case measure => simp [intOf]; omega
      · have h30' : decide ((k : Int) < 30) = false := by simp; omega
        have HD2 := Lib.hid (HD.out.skip h30)
        go_wp2_with fail
        clear d0 d1 d2 hds hBo
        go_roundw
        case rel => exact ⟨k + 1, rb, rx, L, R, by omega, by go_num, hds1, HD2, hB.alloc hB.size _⟩
        case measure => simp [intOf]; omega
    · have hN := HD.out.r.n
      have hLl := HD.out.small.1
      have hsa := hds.s
      have hxa := hds.x
      have hRp := HD.out.r
      have hRs := HD.out.small.2
      clear hkN hds HD
      have HRp := Lib.hid hRp
      clear hRp
      go_wp2_with fail
      clear hk
      (with_reducible refine (rangesR_any w.heap.size gx rx R L _ hxa HRp.out (by omega)).mono ?_)
      rintro e w5 ⟨v5, rfl, ho5, hb5⟩
      have hr5 := rdp_of_own ho5
      rw [List.length_reverse] at ho5
      have hs5 := hsa.below hb5
      have hx5 := hxa.below hb5
      have hB5 := hB.trans (hb5.mono hB.size)
      obtain ⟨A5, cp5, rfl, hn5, hc5, _⟩ := sl_of_own ho5
      have hc5' : cp5 ≤ 9223372036854775807 := by unfold maxLen at hc5; omega
      have hA5 := fun h => own_some ho5 h
      obtain ⟨n, hn⟩ : ∃ n, n = L.length := ⟨_, rfl⟩
      rw [← hn] at hr5 hn5 hA5 ⊢
      have HNN := Lib.hid hn
      have HR5 := Lib.hid hr5
      have HA5 := Lib.hid hA5
      rw [← hn] at hLl
      have HN := Lib.hid hN
      clear hn hr5 ho5 hc5 hb5 hB hsa hxa hN hA5
      go_wp2_with fail
      go_loopw [14, 48] (fun s14 s48 wr => ∃ (j : Nat), j ≤ n ∧ s14 = .int .u64 (cnt (L.reverse.take j)) ∧ s48 = .int .i64 j ∧ Below w5.heap.size w5 wr) (fun _ s48 _ => n - (intOf s48).toNat)
      case atStart => exact ⟨0, Nat.zero_le _, rfl, rfl, Below.refl _ _⟩
      case round =>
        obtain ⟨j, hjn, rfl, rfl, hb6⟩ := hrel
        have hc0 := cnt_revs HN.out j
        have hc1 := cnt_revs HN.out (j + 1)
        by_cases hj : j < n
        · obtain ⟨b5, off5, hA5, hbb5, e0, e1⟩ := (HR5.out.below hb6).get j hj
          subst hA5
          have hT := cnt_take L.reverse j (by rw [List.length_reverse, ← HNN.out]; exact hj)
          rw [rev_at (by rw [← HNN.out]; exact hj)] at e0 e1 hT
          have hup := HN.out.up (L.length - 1 - j) (by rw [← HNN.out]; omega)
          obtain ⟨x, hx⟩ : ∃ x, x = L.getD (L.length - 1 - j) (0, 0) := ⟨_, rfl⟩
          rw [← hx] at e0 e1 hT hup
          clear hx
          obtain ⟨xa, xb⟩ := x
          simp only [MX] at e0 e1 hT hup
          rw [hT] at hc1
          have HT := Lib.hid hT
          clear hT
          obtain ⟨c, hc⟩ : ∃ c, c = cnt (L.reverse.take j) := ⟨_, rfl⟩
          rw [← hc] at hc0 hc1 HT ⊢
          clear hc
          have hB1 := hb6.alloc hb6.size (.cells #[.int .u64 xa, .int .u64 xb] 30)
          have hw1 : IntKind.u64.wrap (xb - xa) = xb - xa := Go.IntWalk.u64_in _ (by omega)
          have hw2 : IntKind.u64.wrap (xb - xa + 1) = xb - xa + 1 := Go.IntWalk.u64_in _ (by omega)
          have hw3 : IntKind.u64.wrap (c + (xb - xa + 1)) = c + (xb - xa + 1) := Go.IntWalk.u64_in _ (by omega)
          go_wp2_with fail
          go_roundw
          case rel => exact ⟨j + 1, by omega, by rw [HT.out], by go_num, hB1⟩
          case measure => simp [intOf]; omega
        · obtain rfl : n = j := by omega
          have hct : cnt (L.reverse.take n) = cnt L := by rw [List.take_of_length_le (by rw [List.length_reverse, ← HNN.out]; omega), cnt_rev]
          obtain ⟨c, hc⟩ : ∃ c, c = cnt L := ⟨_, rfl⟩
          rw [hct, ← hc] at hc0 ⊢
          have HC := Lib.hid hc
          clear hct hc hc1 hj hjn
          have hs6 := hs5.below hb6
          have hx6 := hx5.below hb6
          have hB6 := hB5.trans (hb6.mono hB5.size)
          have hr6 := HR5.out.below hb6
          have HR6 := Lib.hid hr6
          clear hs5 hx5 hB5 hr6 hb6 HR5
          go_wp2_with fail
          refine (top_any w.heap.size g rb L _ hs6 (by rw [← HNN.out]; omega)).mono ?_
          rintro e w7 ⟨rfl, md, rfl⟩
          have hs7 := hs6.drewN md
          have hx7 := hx6.drewN md
          have hr7 := HR6.out.drewN md
          have hB7 := below_drewN hB6 md
          rw [← HNN.out]
          obtain ⟨w9, hw9⟩ : ∃ w9, w9 = World.drewN wr md := ⟨_, rfl⟩
          rw [← hw9] at hs7 hx7 hB7 hr7 ⊢
          clear hs6 hx6 hB6 HR6 hw9
          obtain ⟨kk, hkk⟩ : ∃ kk : Nat, (kk : Int) = max m 0 := ⟨(max m 0).toNat, by omega⟩
          obtain ⟨dd, hdd⟩ : ∃ dd, dd = min n kk := ⟨_, rfl⟩
          have hmx : (if m < 0 then (0 : Int) else m) = (kk : Int) := by split <;> omega
          have hmn : (if (kk : Int) < (n : Int) then (kk : Int) else (n : Int)) = (dd : Int) := by split <;> omega
          have hmn2 : (if kk < n then (kk : Int) else (n : Int)) = (dd : Int) := by rw [← hmn]; simp only [Int.ofNat_lt]
          have hrd := hr7.pre (m := dd) (by rw [List.length_reverse, ← HNN.out]; omega)
          have HRM := Lib.hid (rg_dd (L := L) (dd := dd) hkk (by rw [← HNN.out]; exact hdd))
          have HR1 := Lib.hid (rg_rev (L := L) (by rw [← HNN.out]; exact hLl))
          have HRD := Lib.hid hrd
          have HR7 := Lib.hid hr7
          have hdn : dd ≤ n := by omega
          have hdc : dd ≤ cp5 := by omega
          have hdcI : (dd : Int) ≤ (cp5 : Int) := by omega
          have hd0I : (0 : Int) ≤ (dd : Int) := by omega
          clear hkk hdd hrd hr7
          rcases Nat.eq_zero_or_pos n with hnz | hnp
          · have hp1 : decide (0 < n) = false := by simp; omega
            have hp2 : decide ((0 : Int) < (n : Int)) = false := by simp; omega
            rw [if_pos hnz, hp1]
            have HNZ := Lib.hid hnz
            clear hnz
            go_wp2_with fail
            refine wp_region_held_drew (S := fun _ => True) (by kernel_rfl) (trivial) (fun _ => ?_)
            refine wpAnyH_take (i := 0) (oi := ({ dst := some 66, op := Op.move (Operand.tmp 9), type := 24, pos := _, after := #[], guard := none } : Oper)) (v := ?_) rfl (by kernel_rfl) (by kernel_rfl) (by kernel_rfl) (fun _ _ _ h => h) (Or.inl ⟨by rfl, ?_⟩) (trivial) ?_
            rotate_left
            · intro w hSw
              try dsimp only at hSw
              go_simp
              try with_reducible rfl
            try simp only [Act.put, List.setIfInBounds_toArray, List.set_cons_zero, List.set_cons_succ]
            refine wpAnyH_take (i := 2) (oi := ({ dst := some 68, op := Op.move (Operand.tmp 13), type := 22, pos := _, after := #[], guard := none } : Oper)) (v := ?_) rfl (by kernel_rfl) (by kernel_rfl) (by kernel_rfl) (fun _ _ _ h => h) (Or.inl ⟨by rfl, ?_⟩) (trivial) ?_
            rotate_left
            · intro w hSw
              try dsimp only at hSw
              go_simp
              try with_reducible rfl
            try simp only [Act.put, List.setIfInBounds_toArray, List.set_cons_zero, List.set_cons_succ]
            refine wpAnyH_ready (rs := [1]) (by kernel_rfl) (by simp) ?_
            refine AllReadyH.cons (o := ({ dst := some 67, op := Op.call { callee := Callee.value (Operand.func 13), args := #[Operand.tmp 66, Operand.const (Value.int IntKind.i64 1000)], argTypes := #[24, 3] }, type := 22, pos := _, after := #[{ on := 0, ground := Ground.data }], guard := none } : Oper)) rfl (fun K hK => ?_) AllReadyH.nil
            go_simp
            go_at_call 13
            (with_reducible refine (pl_rg (M := 1000) HR1.out (by rw [← HNN.out]; exact hLl) hs7 (by (repeat (first | with_reducible exact Below.refl _ _ | with_reducible assumption | with_reducible refine keepB_drew ?_ | with_reducible refine keepB_drewN ?_ _ | with_reducible refine keepB_alloc ?_ _)))).mono ?_)
            rintro e w11 ⟨v11, rfl, hr11, hb11⟩
            refine hK.out _ _ (trivial) (fun _ => ?_)
            clear hK K
            try simp only [Act.put, List.setIfInBounds_toArray, List.set_cons_zero, List.set_cons_succ]
            refine wpAnyH_ready (rs := [3]) (by kernel_rfl) (by simp) ?_
            refine AllReadyH.cons (o := ({ dst := some 69, op := Op.call { callee := Callee.value (Operand.func 12), args := #[Operand.tmp 67, Operand.tmp 68], argTypes := #[22, 22] }, type := 4, pos := _, after := #[{ on := 1, ground := Ground.data }, { on := 2, ground := Ground.data }, { on := 1, ground := Ground.chain }], guard := none } : Oper)) rfl (fun K hK => ?_) AllReadyH.nil
            go_simp
            go_at_call 12
            (with_reducible refine (pl_same (hr11.below (by (repeat (first | with_reducible exact Below.refl _ _ | with_reducible assumption | with_reducible refine keepB_drew ?_ | with_reducible refine keepB_drewN ?_ _ | with_reducible refine keepB_alloc ?_ _)))) (HR7.out.below (by (repeat (first | with_reducible exact Below.refl _ _ | with_reducible assumption | with_reducible refine keepB_drew ?_ | with_reducible refine keepB_drewN ?_ _ | with_reducible refine keepB_alloc ?_ _)))) (w9 := w9) (by (repeat (first | with_reducible exact Below.refl _ _ | with_reducible assumption | with_reducible refine keepB_drew ?_ | with_reducible refine keepB_drewN ?_ _ | with_reducible refine keepB_alloc ?_ _)))).mono ?_)
            rintro e w12 ⟨rfl, hb12⟩
            refine hK.out _ _ (trivial) (fun _ => ?_)
            clear hK K
            try simp only [Act.put, List.setIfInBounds_toArray, List.set_cons_zero, List.set_cons_succ]
            refine wpAnyH_take (i := 4) (oi := ({ dst := some 70, op := Op.unOp UnOp.not 4 (Operand.tmp 69), type := 4, pos := _, after := #[{ on := 3, ground := Ground.data }], guard := none } : Oper)) (v := ?_) rfl (by kernel_rfl) (by kernel_rfl) (by kernel_rfl) (fun _ _ _ h => h) (Or.inl ⟨by rfl, ?_⟩) (trivial) ?_
            rotate_left
            · intro w hSw
              try dsimp only at hSw
              go_simp
              try with_reducible rfl
            try simp only [Act.put, List.setIfInBounds_toArray, List.set_cons_zero, List.set_cons_succ]
            refine wpAnyH_take (i := 5) (oi := ({ dst := some 71, op := Op.move (Operand.tmp 70), type := 4, pos := _, after := #[{ on := 4, ground := Ground.data }, { on := 3, ground := Ground.chain }], guard := none } : Oper)) (v := ?_) rfl (by kernel_rfl) (by kernel_rfl) (by kernel_rfl) (fun _ _ _ h => h) (Or.inl ⟨by rfl, ?_⟩) (trivial) ?_
            rotate_left
            · intro w hSw
              try dsimp only at hSw
              go_simp
              try with_reducible rfl
            try simp only [Act.put, List.setIfInBounds_toArray, List.set_cons_zero, List.set_cons_succ]
            refine wpAnyH_take (i := 6) (oi := ({ dst := some 72, op := Op.move (Operand.tmp 9), type := 24, pos := _, after := #[{ on := 5, ground := Ground.guard }], guard := some (5, false) } : Oper)) (v := ?_) rfl (by kernel_rfl) (by kernel_rfl) (by kernel_rfl) (fun _ _ _ h => h) (Or.inl ⟨by rfl, ?_⟩) (trivial) ?_
            rotate_left
            · intro w hSw
              try dsimp only at hSw
              go_simp
              try with_reducible rfl
            try simp only [Act.put, List.setIfInBounds_toArray, List.set_cons_zero, List.set_cons_succ]
            refine wpAnyH_take (i := 7) (oi := ({ dst := some 73, op := Op.move (Operand.tmp 2), type := 3, pos := _, after := #[{ on := 5, ground := Ground.guard }], guard := some (5, false) } : Oper)) (v := ?_) rfl (by kernel_rfl) (by kernel_rfl) (by kernel_rfl) (fun _ _ _ h => h) (Or.inl ⟨by rfl, ?_⟩) (trivial) ?_
            rotate_left
            · intro w hSw
              try dsimp only at hSw
              go_simp
              try with_reducible rfl
            try simp only [Act.put, List.setIfInBounds_toArray, List.set_cons_zero, List.set_cons_succ]
            refine wpAnyH_take (i := 9) (oi := ({ dst := some 75, op := Op.move (Operand.tmp 13), type := 22, pos := _, after := #[{ on := 5, ground := Ground.guard }], guard := some (5, false) } : Oper)) (v := ?_) rfl (by kernel_rfl) (by kernel_rfl) (by kernel_rfl) (fun _ _ _ h => h) (Or.inl ⟨by rfl, ?_⟩) (trivial) ?_
            rotate_left
            · intro w hSw
              try dsimp only at hSw
              go_simp
              try with_reducible rfl
            try simp only [Act.put, List.setIfInBounds_toArray, List.set_cons_zero, List.set_cons_succ]
            refine wpAnyH_take (i := 10) (oi := ({ dst := some 76, op := Op.move (Operand.tmp 13), type := 22, pos := _, after := #[{ on := 5, ground := Ground.guard }], guard := some (5, false) } : Oper)) (v := ?_) rfl (by kernel_rfl) (by kernel_rfl) (by kernel_rfl) (fun _ _ _ h => h) (Or.inl ⟨by rfl, ?_⟩) (trivial) ?_
            rotate_left
            · intro w hSw
              try dsimp only at hSw
              go_simp
              try with_reducible rfl
            try simp only [Act.put, List.setIfInBounds_toArray, List.set_cons_zero, List.set_cons_succ]
            refine wpAnyH_take (i := 11) (oi := ({ dst := some 77, op := Op.call { callee := Callee.builtin Builtin.len, args := #[Operand.tmp 76], argTypes := #[22] }, type := 3, pos := _, after := #[{ on := 10, ground := Ground.data }, { on := 5, ground := Ground.guard }], guard := some (5, false) } : Oper)) (v := ?_) rfl (by kernel_rfl) (by kernel_rfl) (by kernel_rfl) (fun _ _ _ h => h) (Or.inl ⟨by rfl, ?_⟩) (trivial) ?_
            rotate_left
            · intro w hSw
              try dsimp only at hSw
              go_simp
              try with_reducible rfl
            try simp only [Act.put, List.setIfInBounds_toArray, List.set_cons_zero, List.set_cons_succ]
            refine wpAnyH_take (i := 12) (oi := ({ dst := some 78, op := Op.move (Operand.tmp 2), type := 3, pos := _, after := #[{ on := 5, ground := Ground.guard }], guard := some (5, false) } : Oper)) (v := ?_) rfl (by kernel_rfl) (by kernel_rfl) (by kernel_rfl) (fun _ _ _ h => h) (Or.inl ⟨by rfl, ?_⟩) (trivial) ?_
            rotate_left
            · intro w hSw
              try dsimp only at hSw
              go_simp
              try with_reducible rfl
            try simp only [Act.put, List.setIfInBounds_toArray, List.set_cons_zero, List.set_cons_succ]
            refine wpAnyH_take (i := 13) (oi := ({ dst := some 79, op := Op.call { callee := Callee.builtin Builtin.max, args := #[Operand.tmp 78, Operand.const (Value.int IntKind.i64 0)], argTypes := #[3, 3] }, type := 3, pos := _, after := #[{ on := 12, ground := Ground.data }, { on := 5, ground := Ground.guard }], guard := some (5, false) } : Oper)) (v := ?_) rfl (by kernel_rfl) (by kernel_rfl) (by kernel_rfl) (fun _ _ _ h => h) (Or.inl ⟨by rfl, ?_⟩) (trivial) ?_
            rotate_left
            · intro w hSw
              try dsimp only at hSw
              go_simp
              try with_reducible rfl
            try simp only [Act.put, List.setIfInBounds_toArray, List.set_cons_zero, List.set_cons_succ]
            refine wpAnyH_take (i := 14) (oi := ({ dst := some 80, op := Op.call { callee := Callee.builtin Builtin.min, args := #[Operand.tmp 77, Operand.tmp 79], argTypes := #[3, 3] }, type := 3, pos := _, after := #[{ on := 11, ground := Ground.data }, { on := 13, ground := Ground.data }, { on := 5, ground := Ground.guard }], guard := some (5, false) } : Oper)) (v := ?_) rfl (by kernel_rfl) (by kernel_rfl) (by kernel_rfl) (fun _ _ _ h => h) (Or.inl ⟨by rfl, ?_⟩) (trivial) ?_
            rotate_left
            · intro w hSw
              try dsimp only at hSw
              go_simp
              try with_reducible rfl
            try simp only [Act.put, List.setIfInBounds_toArray, List.set_cons_zero, List.set_cons_succ]
            refine wpAnyH_take (i := 15) (oi := ({ dst := some 81, op := Op.slice 22 (Operand.tmp 75) none (some (Operand.tmp 80)) none, type := 22, pos := _, after := #[{ on := 9, ground := Ground.data }, { on := 14, ground := Ground.data }, { on := 5, ground := Ground.guard }], guard := some (5, false) } : Oper)) (v := ?_) rfl (by kernel_rfl) (by kernel_rfl) (by kernel_rfl) (fun _ _ _ h => h) (Or.inl ⟨by rfl, ?_⟩) (trivial) ?_
            rotate_left
            · intro w hSw
              try dsimp only at hSw
              go_simp
              try with_reducible rfl
            try simp only [Act.put, List.setIfInBounds_toArray, List.set_cons_zero, List.set_cons_succ]
            refine wpAnyH_ready (rs := [8]) (by kernel_rfl) (by simp) ?_
            refine AllReadyH.cons (o := ({ dst := some 74, op := Op.call { callee := Callee.value (Operand.func 13), args := #[Operand.tmp 72, Operand.tmp 73], argTypes := #[24, 3] }, type := 22, pos := _, after := #[{ on := 6, ground := Ground.data }, { on := 7, ground := Ground.data }, { on := 5, ground := Ground.chain }, { on := 5, ground := Ground.guard }], guard := some (5, false) } : Oper)) rfl (fun K hK => ?_) AllReadyH.nil
            go_simp
            go_at_call 13
            (with_reducible refine (pl_rg (M := m) HRM.out (by rw [← HNN.out]; exact hLl) hs7 (by (repeat (first | with_reducible exact Below.refl _ _ | with_reducible assumption | with_reducible refine keepB_drew ?_ | with_reducible refine keepB_drewN ?_ _ | with_reducible refine keepB_alloc ?_ _)))).mono ?_)
            rintro e w21 ⟨v21, rfl, hr21, hb21⟩
            refine hK.out _ _ (trivial) (fun _ => ?_)
            clear hK K
            try simp only [Act.put, List.setIfInBounds_toArray, List.set_cons_zero, List.set_cons_succ]
            refine wpAnyH_ready (rs := [16]) (by kernel_rfl) (by simp) ?_
            refine AllReadyH.cons (o := ({ dst := some 82, op := Op.call { callee := Callee.value (Operand.func 12), args := #[Operand.tmp 74, Operand.tmp 81], argTypes := #[22, 22] }, type := 4, pos := _, after := #[{ on := 8, ground := Ground.data }, { on := 15, ground := Ground.data }, { on := 8, ground := Ground.chain }, { on := 5, ground := Ground.guard }], guard := some (5, false) } : Oper)) rfl (fun K hK => ?_) AllReadyH.nil
            go_simp
            go_at_call 12
            (with_reducible refine (pl_same (hr21.below (by (repeat (first | with_reducible exact Below.refl _ _ | with_reducible assumption | with_reducible refine keepB_drew ?_ | with_reducible refine keepB_drewN ?_ _ | with_reducible refine keepB_alloc ?_ _)))) (HRD.out.below (by (repeat (first | with_reducible exact Below.refl _ _ | with_reducible assumption | with_reducible refine keepB_drew ?_ | with_reducible refine keepB_drewN ?_ _ | with_reducible refine keepB_alloc ?_ _)))) (w9 := w9) (by (repeat (first | with_reducible exact Below.refl _ _ | with_reducible assumption | with_reducible refine keepB_drew ?_ | with_reducible refine keepB_drewN ?_ _ | with_reducible refine keepB_alloc ?_ _)))).mono ?_)
            rintro e w22 ⟨rfl, hb22⟩
            refine hK.out _ _ (trivial) (fun _ => ?_)
            clear hK K
            try simp only [Act.put, List.setIfInBounds_toArray, List.set_cons_zero, List.set_cons_succ]
            refine wpAnyH_take (i := 17) (oi := ({ dst := some 83, op := Op.unOp UnOp.not 4 (Operand.tmp 82), type := 4, pos := _, after := #[{ on := 16, ground := Ground.data }, { on := 5, ground := Ground.guard }], guard := some (5, false) } : Oper)) (v := ?_) rfl (by kernel_rfl) (by kernel_rfl) (by kernel_rfl) (fun _ _ _ h => h) (Or.inl ⟨by rfl, ?_⟩) (trivial) ?_
            rotate_left
            · intro w hSw
              try dsimp only at hSw
              go_simp
              try with_reducible rfl
            try simp only [Act.put, List.setIfInBounds_toArray, List.set_cons_zero, List.set_cons_succ]
            refine wpAnyH_take (i := 18) (oi := ({ dst := some 84, op := Op.pick (Operand.tmp 71) (Operand.const (Value.bool true)) (Operand.tmp 83), type := 4, pos := _, after := #[{ on := 5, ground := Ground.data }, { on := 17, ground := Ground.data }], guard := none } : Oper)) (v := ?_) rfl (by kernel_rfl) (by kernel_rfl) (by kernel_rfl) (fun _ _ _ h => h) (Or.inl ⟨by rfl, ?_⟩) (trivial) ?_
            rotate_left
            · intro w hSw
              try dsimp only at hSw
              go_simp
              try with_reducible rfl
            try simp only [Act.put, List.setIfInBounds_toArray, List.set_cons_zero, List.set_cons_succ]
            refine wpAnyH_take (i := 19) (oi := ({ dst := some 85, op := Op.move (Operand.tmp 84), type := 4, pos := _, after := #[{ on := 18, ground := Ground.data }, { on := 16, ground := Ground.chain }], guard := none } : Oper)) (v := ?_) rfl (by kernel_rfl) (by kernel_rfl) (by kernel_rfl) (fun _ _ _ h => h) (Or.inl ⟨by rfl, ?_⟩) (trivial) ?_
            rotate_left
            · intro w hSw
              try dsimp only at hSw
              go_simp
              try with_reducible rfl
            try simp only [Act.put, List.setIfInBounds_toArray, List.set_cons_zero, List.set_cons_succ]
            refine wpAnyH_take (i := 20) (oi := ({ dst := some 86, op := Op.move (Operand.tmp 9), type := 24, pos := _, after := #[{ on := 19, ground := Ground.guard }], guard := some (19, false) } : Oper)) (v := ?_) rfl (by kernel_rfl) (by kernel_rfl) (by kernel_rfl) (fun _ _ _ h => h) (Or.inl ⟨by rfl, ?_⟩) (trivial) ?_
            rotate_left
            · intro w hSw
              try dsimp only at hSw
              go_simp
              try with_reducible rfl
            try simp only [Act.put, List.setIfInBounds_toArray, List.set_cons_zero, List.set_cons_succ]
            refine wpAnyH_take (i := 22) (oi := ({ dst := some 88, op := Op.move (Operand.tmp 13), type := 22, pos := _, after := #[{ on := 19, ground := Ground.guard }], guard := some (19, false) } : Oper)) (v := ?_) rfl (by kernel_rfl) (by kernel_rfl) (by kernel_rfl) (fun _ _ _ h => h) (Or.inl ⟨by rfl, ?_⟩) (trivial) ?_
            rotate_left
            · intro w hSw
              try dsimp only at hSw
              go_simp
              try with_reducible rfl
            try simp only [Act.put, List.setIfInBounds_toArray, List.set_cons_zero, List.set_cons_succ]
            refine wpAnyH_take (i := 23) (oi := ({ dst := some 89, op := Op.call { callee := Callee.builtin Builtin.len, args := #[Operand.tmp 88], argTypes := #[22] }, type := 3, pos := _, after := #[{ on := 22, ground := Ground.data }, { on := 19, ground := Ground.guard }], guard := some (19, false) } : Oper)) (v := ?_) rfl (by kernel_rfl) (by kernel_rfl) (by kernel_rfl) (fun _ _ _ h => h) (Or.inl ⟨by rfl, ?_⟩) (trivial) ?_
            rotate_left
            · intro w hSw
              try dsimp only at hSw
              go_simp
              try with_reducible rfl
            try simp only [Act.put, List.setIfInBounds_toArray, List.set_cons_zero, List.set_cons_succ]
            refine wpAnyH_ready (rs := [21]) (by kernel_rfl) (by simp) ?_
            refine AllReadyH.cons (o := ({ dst := some 87, op := Op.call { callee := Callee.value (Operand.func 18), args := #[Operand.tmp 86], argTypes := #[24] }, type := 3, pos := _, after := #[{ on := 20, ground := Ground.data }, { on := 19, ground := Ground.chain }, { on := 19, ground := Ground.guard }], guard := some (19, false) } : Oper)) rfl (fun K hK => ?_) AllReadyH.nil
            go_simp
            go_at_call 18
            (with_reducible refine (pl_len HNN.out hs7 (by (repeat (first | with_reducible exact Below.refl _ _ | with_reducible assumption | with_reducible refine keepB_drew ?_ | with_reducible refine keepB_drewN ?_ _ | with_reducible refine keepB_alloc ?_ _)))).mono ?_)
            rintro e w31 ⟨rfl, hb31⟩
            refine hK.out _ _ (trivial) (fun _ => ?_)
            clear hK K
            try simp only [Act.put, List.setIfInBounds_toArray, List.set_cons_zero, List.set_cons_succ]
            refine wpAnyH_take (i := 24) (oi := ({ dst := some 90, op := Op.binOp BinOp.neq 3 (Operand.tmp 87) (Operand.tmp 89) 3, type := 4, pos := _, after := #[{ on := 21, ground := Ground.data }, { on := 23, ground := Ground.data }, { on := 19, ground := Ground.guard }], guard := some (19, false) } : Oper)) (v := ?_) rfl (by kernel_rfl) (by kernel_rfl) (by kernel_rfl) (fun _ _ _ h => h) (Or.inl ⟨by rfl, ?_⟩) (trivial) ?_
            rotate_left
            · intro w hSw
              try dsimp only at hSw
              go_simp
              try with_reducible rfl
            try simp only [Act.put, List.setIfInBounds_toArray, List.set_cons_zero, List.set_cons_succ]
            refine wpAnyH_take (i := 25) (oi := ({ dst := some 91, op := Op.pick (Operand.tmp 85) (Operand.const (Value.bool true)) (Operand.tmp 90), type := 4, pos := _, after := #[{ on := 19, ground := Ground.data }, { on := 24, ground := Ground.data }], guard := none } : Oper)) (v := ?_) rfl (by kernel_rfl) (by kernel_rfl) (by kernel_rfl) (fun _ _ _ h => h) (Or.inl ⟨by rfl, ?_⟩) (trivial) ?_
            rotate_left
            · intro w hSw
              try dsimp only at hSw
              go_simp
              try with_reducible rfl
            try simp only [Act.put, List.setIfInBounds_toArray, List.set_cons_zero, List.set_cons_succ]
            refine wpAnyH_take (i := 26) (oi := ({ dst := some 92, op := Op.move (Operand.tmp 91), type := 4, pos := _, after := #[{ on := 25, ground := Ground.data }, { on := 21, ground := Ground.chain }], guard := none } : Oper)) (v := ?_) rfl (by kernel_rfl) (by kernel_rfl) (by kernel_rfl) (fun _ _ _ h => h) (Or.inl ⟨by rfl, ?_⟩) (trivial) ?_
            rotate_left
            · intro w hSw
              try dsimp only at hSw
              go_simp
              try with_reducible rfl
            try simp only [Act.put, List.setIfInBounds_toArray, List.set_cons_zero, List.set_cons_succ]
            refine wpAnyH_take (i := 27) (oi := ({ dst := some 93, op := Op.move (Operand.tmp 9), type := 24, pos := _, after := #[{ on := 26, ground := Ground.guard }], guard := some (26, false) } : Oper)) (v := ?_) rfl (by kernel_rfl) (by kernel_rfl) (by kernel_rfl) (fun _ _ _ h => h) (Or.inl ⟨by rfl, ?_⟩) (trivial) ?_
            rotate_left
            · intro w hSw
              try dsimp only at hSw
              go_simp
              try with_reducible rfl
            try simp only [Act.put, List.setIfInBounds_toArray, List.set_cons_zero, List.set_cons_succ]
            refine wpAnyH_take (i := 29) (oi := ({ dst := some 95, op := Op.move (Operand.tmp 14), type := 28, pos := _, after := #[{ on := 26, ground := Ground.guard }], guard := some (26, false) } : Oper)) (v := ?_) rfl (by kernel_rfl) (by kernel_rfl) (by kernel_rfl) (fun _ _ _ h => h) (Or.inl ⟨by rfl, ?_⟩) (trivial) ?_
            rotate_left
            · intro w hSw
              try dsimp only at hSw
              go_simp
              try with_reducible rfl
            try simp only [Act.put, List.setIfInBounds_toArray, List.set_cons_zero, List.set_cons_succ]
            refine wpAnyH_ready (rs := [28]) (by kernel_rfl) (by simp) ?_
            refine AllReadyH.cons (o := ({ dst := some 94, op := Op.call { callee := Callee.value (Operand.func 21), args := #[Operand.tmp 93], argTypes := #[24] }, type := 28, pos := _, after := #[{ on := 27, ground := Ground.data }, { on := 26, ground := Ground.chain }, { on := 26, ground := Ground.guard }], guard := some (26, false) } : Oper)) rfl (fun K hK => ?_) AllReadyH.nil
            go_simp
            go_at_call 21
            (with_reducible refine (pl_cnt HC.out HN.out hs7 (by (repeat (first | with_reducible exact Below.refl _ _ | with_reducible assumption | with_reducible refine keepB_drew ?_ | with_reducible refine keepB_drewN ?_ _ | with_reducible refine keepB_alloc ?_ _)))).mono ?_)
            rintro e w32 ⟨rfl, hb32⟩
            refine hK.out _ _ (trivial) (fun _ => ?_)
            clear hK K
            try simp only [Act.put, List.setIfInBounds_toArray, List.set_cons_zero, List.set_cons_succ]
            refine wpAnyH_take (i := 30) (oi := ({ dst := some 96, op := Op.binOp BinOp.neq 28 (Operand.tmp 94) (Operand.tmp 95) 28, type := 4, pos := _, after := #[{ on := 28, ground := Ground.data }, { on := 29, ground := Ground.data }, { on := 26, ground := Ground.guard }], guard := some (26, false) } : Oper)) (v := ?_) rfl (by kernel_rfl) (by kernel_rfl) (by kernel_rfl) (fun _ _ _ h => h) (Or.inl ⟨by rfl, ?_⟩) (trivial) ?_
            rotate_left
            · intro w hSw
              try dsimp only at hSw
              go_simp
              try with_reducible rfl
            try simp only [Act.put, List.setIfInBounds_toArray, List.set_cons_zero, List.set_cons_succ]
            refine wpAnyH_take (i := 31) (oi := ({ dst := some 97, op := Op.pick (Operand.tmp 92) (Operand.const (Value.bool true)) (Operand.tmp 96), type := 4, pos := _, after := #[{ on := 26, ground := Ground.data }, { on := 30, ground := Ground.data }], guard := none } : Oper)) (v := ?_) rfl (by kernel_rfl) (by kernel_rfl) (by kernel_rfl) (fun _ _ _ h => h) (Or.inl ⟨by rfl, ?_⟩) (trivial) ?_
            rotate_left
            · intro w hSw
              try dsimp only at hSw
              go_simp
              try with_reducible rfl
            try simp only [Act.put, List.setIfInBounds_toArray, List.set_cons_zero, List.set_cons_succ]
            refine wpAnyH_take (i := 32) (oi := ({ dst := some 98, op := Op.move (Operand.tmp 97), type := 4, pos := _, after := #[{ on := 31, ground := Ground.data }, { on := 28, ground := Ground.chain }], guard := none } : Oper)) (v := ?_) rfl (by kernel_rfl) (by kernel_rfl) (by kernel_rfl) (fun _ _ _ h => h) (Or.inl ⟨by rfl, ?_⟩) (trivial) ?_
            rotate_left
            · intro w hSw
              try dsimp only at hSw
              go_simp
              try with_reducible rfl
            try simp only [Act.put, List.setIfInBounds_toArray, List.set_cons_zero, List.set_cons_succ]
            refine wpAnyH_take (i := 33) (oi := ({ dst := some 99, op := Op.move (Operand.tmp 18), type := 4, pos := _, after := #[{ on := 32, ground := Ground.guard }], guard := some (32, false) } : Oper)) (v := ?_) rfl (by kernel_rfl) (by kernel_rfl) (by kernel_rfl) (fun _ _ _ h => h) (Or.inl ⟨by rfl, ?_⟩) (trivial) ?_
            rotate_left
            · intro w hSw
              try dsimp only at hSw
              go_simp
              try with_reducible rfl
            try simp only [Act.put, List.setIfInBounds_toArray, List.set_cons_zero, List.set_cons_succ]
            refine wpAnyH_take (i := 34) (oi := ({ dst := some 100, op := Op.move (Operand.tmp 13), type := 22, pos := _, after := #[{ on := 32, ground := Ground.guard }], guard := some (32, false) } : Oper)) (v := ?_) rfl (by kernel_rfl) (by kernel_rfl) (by kernel_rfl) (fun _ _ _ h => h) (Or.inl ⟨by rfl, ?_⟩) (trivial) ?_
            rotate_left
            · intro w hSw
              try dsimp only at hSw
              go_simp
              try with_reducible rfl
            try simp only [Act.put, List.setIfInBounds_toArray, List.set_cons_zero, List.set_cons_succ]
            refine wpAnyH_take (i := 35) (oi := ({ dst := some 101, op := Op.call { callee := Callee.builtin Builtin.len, args := #[Operand.tmp 100], argTypes := #[22] }, type := 3, pos := _, after := #[{ on := 34, ground := Ground.data }, { on := 32, ground := Ground.guard }], guard := some (32, false) } : Oper)) (v := ?_) rfl (by kernel_rfl) (by kernel_rfl) (by kernel_rfl) (fun _ _ _ h => h) (Or.inl ⟨by rfl, ?_⟩) (trivial) ?_
            rotate_left
            · intro w hSw
              try dsimp only at hSw
              go_simp
              try with_reducible rfl
            try simp only [Act.put, List.setIfInBounds_toArray, List.set_cons_zero, List.set_cons_succ]
            refine wpAnyH_take (i := 36) (oi := ({ dst := some 102, op := Op.binOp BinOp.gtr 3 (Operand.tmp 101) (Operand.const (Value.int IntKind.i64 0)) 3, type := 4, pos := _, after := #[{ on := 35, ground := Ground.data }, { on := 32, ground := Ground.guard }], guard := some (32, false) } : Oper)) (v := ?_) rfl (by kernel_rfl) (by kernel_rfl) (by kernel_rfl) (fun _ _ _ h => h) (Or.inl ⟨by rfl, ?_⟩) (trivial) ?_
            rotate_left
            · intro w hSw
              try dsimp only at hSw
              go_simp
              try with_reducible rfl
            try simp only [Act.put, List.setIfInBounds_toArray, List.set_cons_zero, List.set_cons_succ]
            refine wpAnyH_take (i := 37) (oi := ({ dst := some 103, op := Op.binOp BinOp.neq 4 (Operand.tmp 99) (Operand.tmp 102) 4, type := 4, pos := _, after := #[{ on := 33, ground := Ground.data }, { on := 36, ground := Ground.data }, { on := 32, ground := Ground.guard }], guard := some (32, false) } : Oper)) (v := ?_) rfl (by kernel_rfl) (by kernel_rfl) (by kernel_rfl) (fun _ _ _ h => h) (Or.inl ⟨by rfl, ?_⟩) (trivial) ?_
            rotate_left
            · intro w hSw
              try dsimp only at hSw
              go_simp
              try with_reducible rfl
            try simp only [Act.put, List.setIfInBounds_toArray, List.set_cons_zero, List.set_cons_succ]
            refine wpAnyH_take (i := 38) (oi := ({ dst := some 104, op := Op.pick (Operand.tmp 98) (Operand.const (Value.bool true)) (Operand.tmp 103), type := 4, pos := _, after := #[{ on := 32, ground := Ground.data }, { on := 37, ground := Ground.data }], guard := none } : Oper)) (v := ?_) rfl (by kernel_rfl) (by kernel_rfl) (by kernel_rfl) (fun _ _ _ h => h) (Or.inl ⟨by rfl, ?_⟩) (trivial) ?_
            rotate_left
            · intro w hSw
              try dsimp only at hSw
              go_simp
              try with_reducible rfl
            try simp only [Act.put, List.setIfInBounds_toArray, List.set_cons_zero, List.set_cons_succ]
            refine wpAnyH_take (i := 39) (oi := ({ dst := some 105, op := Op.move (Operand.tmp 104), type := 4, pos := _, after := #[{ on := 38, ground := Ground.data }, { on := 32, ground := Ground.chain }], guard := none } : Oper)) (v := ?_) rfl (by kernel_rfl) (by kernel_rfl) (by kernel_rfl) (fun _ _ _ h => h) (Or.inl ⟨by rfl, ?_⟩) (trivial) ?_
            rotate_left
            · intro w hSw
              try dsimp only at hSw
              go_simp
              try with_reducible rfl
            try simp only [Act.put, List.setIfInBounds_toArray, List.set_cons_zero, List.set_cons_succ]
            refine wpAnyH_take (i := 40) (oi := ({ dst := some 106, op := Op.move (Operand.tmp 18), type := 4, pos := _, after := #[{ on := 39, ground := Ground.guard }], guard := some (39, false) } : Oper)) (v := ?_) rfl (by kernel_rfl) (by kernel_rfl) (by kernel_rfl) (fun _ _ _ h => h) (Or.inl ⟨by rfl, ?_⟩) (trivial) ?_
            rotate_left
            · intro w hSw
              try dsimp only at hSw
              go_simp
              try with_reducible rfl
            try simp only [Act.put, List.setIfInBounds_toArray, List.set_cons_zero, List.set_cons_succ]
            refine wpAnyH_take (i := 41) (oi := ({ dst := some 107, op := Op.move (Operand.tmp 106), type := 4, pos := _, after := #[{ on := 40, ground := Ground.data }, { on := 39, ground := Ground.chain }, { on := 39, ground := Ground.guard }], guard := some (39, false) } : Oper)) (v := ?_) rfl (by kernel_rfl) (by kernel_rfl) (by kernel_rfl) (fun _ _ _ h => h) (Or.inl ⟨by rfl, ?_⟩) (trivial) ?_
            rotate_left
            · intro w hSw
              try dsimp only at hSw
              go_simp
              try with_reducible rfl
            try simp only [Act.put, List.setIfInBounds_toArray, List.set_cons_zero, List.set_cons_succ]
            refine wpAnyH_take (i := 42) (oi := ({ dst := some 108, op := Op.move (Operand.tmp 17), type := 28, pos := _, after := #[{ on := 41, ground := Ground.guard }], guard := some (41, true) } : Oper)) (v := undef) rfl (by kernel_rfl) (by kernel_rfl) (by kernel_rfl) (fun _ _ _ h => h) (Or.inr ⟨by rfl, rfl⟩) (trivial) ?_
            try simp only [Act.put, List.setIfInBounds_toArray, List.set_cons_zero, List.set_cons_succ]
            refine wpAnyH_take (i := 43) (oi := ({ dst := some 109, op := Op.move (Operand.tmp 13), type := 22, pos := _, after := #[{ on := 41, ground := Ground.guard }], guard := some (41, true) } : Oper)) (v := undef) rfl (by kernel_rfl) (by kernel_rfl) (by kernel_rfl) (fun _ _ _ h => h) (Or.inr ⟨by rfl, rfl⟩) (trivial) ?_
            try simp only [Act.put, List.setIfInBounds_toArray, List.set_cons_zero, List.set_cons_succ]
            refine wpAnyH_take (i := 44) (oi := ({ dst := some 110, op := Op.indexAddr 22 (Operand.tmp 109) (Operand.const (Value.int IntKind.i64 0)), type := 0, pos := _, after := #[{ on := 43, ground := Ground.data }, { on := 41, ground := Ground.guard }], guard := some (41, true) } : Oper)) (v := undef) rfl (by kernel_rfl) (by kernel_rfl) (by kernel_rfl) (fun _ _ _ h => h) (Or.inr ⟨by rfl, rfl⟩) (trivial) ?_
            try simp only [Act.put, List.setIfInBounds_toArray, List.set_cons_zero, List.set_cons_succ]
            refine wpAnyH_take (i := 45) (oi := ({ dst := some 111, op := Op.fieldAddr 30 (Operand.tmp 110) 1, type := 0, pos := _, after := #[{ on := 44, ground := Ground.data }, { on := 41, ground := Ground.guard }], guard := some (41, true) } : Oper)) (v := undef) rfl (by kernel_rfl) (by kernel_rfl) (by kernel_rfl) (fun _ _ _ h => h) (Or.inr ⟨by rfl, rfl⟩) (trivial) ?_
            try simp only [Act.put, List.setIfInBounds_toArray, List.set_cons_zero, List.set_cons_succ]
            refine wpAnyH_take (i := 46) (oi := ({ dst := some 112, op := Op.load 28 (Operand.tmp 111), type := 28, pos := _, after := #[{ on := 45, ground := Ground.data }, { on := 41, ground := Ground.guard }], guard := some (41, true) } : Oper)) (v := undef) rfl (by kernel_rfl) (by kernel_rfl) (by kernel_rfl) (fun _ _ _ h => h) (Or.inr ⟨by rfl, rfl⟩) (trivial) ?_
            try simp only [Act.put, List.setIfInBounds_toArray, List.set_cons_zero, List.set_cons_succ]
            refine wpAnyH_take (i := 47) (oi := ({ dst := some 113, op := Op.binOp BinOp.neq 28 (Operand.tmp 108) (Operand.tmp 112) 28, type := 4, pos := _, after := #[{ on := 42, ground := Ground.data }, { on := 46, ground := Ground.data }, { on := 41, ground := Ground.guard }], guard := some (41, true) } : Oper)) (v := undef) rfl (by kernel_rfl) (by kernel_rfl) (by kernel_rfl) (fun _ _ _ h => h) (Or.inr ⟨by rfl, rfl⟩) (trivial) ?_
            try simp only [Act.put, List.setIfInBounds_toArray, List.set_cons_zero, List.set_cons_succ]
            refine wpAnyH_take (i := 48) (oi := ({ dst := some 114, op := Op.pick (Operand.tmp 107) (Operand.tmp 113) (Operand.const (Value.bool false)), type := 4, pos := _, after := #[{ on := 41, ground := Ground.data }, { on := 47, ground := Ground.data }, { on := 39, ground := Ground.guard }], guard := some (39, false) } : Oper)) (v := ?_) rfl (by kernel_rfl) (by kernel_rfl) (by kernel_rfl) (fun _ _ _ h => h) (Or.inl ⟨by rfl, ?_⟩) (trivial) ?_
            rotate_left
            · intro w hSw
              try dsimp only at hSw
              go_simp
              try with_reducible rfl
            try simp only [Act.put, List.setIfInBounds_toArray, List.set_cons_zero, List.set_cons_succ]
            refine wpAnyH_take (i := 49) (oi := ({ dst := some 115, op := Op.pick (Operand.tmp 105) (Operand.const (Value.bool true)) (Operand.tmp 114), type := 4, pos := _, after := #[{ on := 39, ground := Ground.data }, { on := 48, ground := Ground.data }], guard := none } : Oper)) (v := ?_) rfl (by kernel_rfl) (by kernel_rfl) (by kernel_rfl) (fun _ _ _ h => h) (Or.inl ⟨by rfl, ?_⟩) (trivial) ?_
            rotate_left
            · intro w hSw
              try dsimp only at hSw
              go_simp
              try with_reducible rfl
            try simp only [Act.put, List.setIfInBounds_toArray, List.set_cons_zero, List.set_cons_succ]
            refine wpAnyH_done (by kernel_rfl) ?_ _
            go_wp2_with fail
            refine wp_world (fun wz => Below w9.heap.size w9 wz) (by (repeat (first | with_reducible exact Below.refl _ _ | with_reducible assumption | with_reducible refine keepB_drew ?_ | with_reducible refine keepB_drewN ?_ _ | with_reducible refine keepB_alloc ?_ _))) ?_
            rintro wz hbz
            have hs9 := hs7.below hbz
            have hx9 := hx7.below hbz
            have hB9 := hB7.trans (hbz.mono hB7.size)
            clear hs7 hx7 hB7 hbz HR7 HRD HRM HR1 hmx hmn hmn2 
            clear hr11 hr21 hb11 hb12 hb21 hb22 hb31 hb32
            go_loopw [118] (fun sc wr => ∃ (j : Nat), j ≤ q ∧ sc = .int .i64 j ∧ Below wz.heap.size wz wr) (fun sc _ => q - (intOf sc).toNat)
            case atStart => exact ⟨0, Nat.zero_le _, rfl, Below.refl _ _⟩
            case round =>
              obtain ⟨j, hjn, rfl, hb8⟩ := hrel
              have hs8 := hs9.below hb8
              have hx8 := hx9.below hb8
              have hB8 := hB9.trans (hb8.mono hB9.size)
              by_cases hj : j < q
              · obtain ⟨b3, off3, rfl, hbb3, c3⟩ := (HV.out.below hB8).at_ j (by rw [← HNL.out]; exact hj)
                obtain ⟨x, hx⟩ : ∃ x, x = l.getD j 0 := ⟨_, rfl⟩
                rw [← hx] at c3
                clear hx
                by_cases hj20 : j < 20
                · have hj20' : (j : Int) < 20 := by omega
                  have hbe := hasB_rp HRp.out x
                  obtain ⟨r, hr⟩ : ∃ r, r = hasB L x := ⟨_, rfl⟩
                  rw [← hr] at hbe
                  have HBE := Lib.hid hbe
                  have HRx := Lib.hid hr.symm
                  obtain ⟨y, hy⟩ : ∃ y, y = holeL L x := ⟨_, rfl⟩
                  have HY := Lib.hid hy.symm
                  clear hbe hr hy
                  cases r
                  all_goals
                    go_wp2_with fail
                    (with_reducible refine (has_any w.heap.size g rb L x _ hs8 HN.out).mono ?_)
                    rintro e w11 ⟨rfl, hb11⟩
                    rw [HRx.out]
                    have hs11 := hs8.below hb11
                    have hx11 := hx8.below hb11
                    have hbb11 := hb8.trans (hb11.mono hb8.size)
                    clear c3 hs8 hx8 hb11 hB8
                    go_wp2_with fail
                    (with_reducible refine (hasR_any w.heap.size gx rx R x _ hx11 (by omega)).mono ?_)
                    rintro e w12 ⟨rfl, hb12⟩
                    rw [HBE.out]
                    have hs12 := hs11.below hb12
                    have hx12 := hx11.below hb12
                    have hbb12 := hbb11.trans (hb12.mono hbb11.size)
                    clear hs11 hx11 hb12 hbb11
                    go_wp2_with fail
                    (with_reducible refine (hole_any w.heap.size g rb L x _ hs12 HN.out).mono ?_)
                    rintro e w13 ⟨rfl, hb13⟩
                    rw [HY.out]
                    have hx13 := hx12.below hb13
                    have hbb13 := hbb12.trans (hb13.mono hbb12.size)
                    clear hs12 hx12 hb13 hbb12
                    go_wp2_with fail
                    (with_reducible refine (holeR_any w.heap.size gx rx R L x _ hx13 HRp.out (by omega)).mono ?_)
                    rintro e w14 ⟨rfl, hb14⟩
                    rw [HY.out]
                    have hbb14 := hbb13.trans (hb14.mono hbb13.size)
                    clear hx13 hb14 hbb13
                    go_wp2_with fail
                    go_roundw
                    case rel => exact ⟨j + 1, by omega, by go_num, hbb14⟩
                    case measure => simp [intOf]; omega
                · have hj20' : decide ((j : Int) < 20) = false := by simp; omega
                  go_wp2_with fail
                  go_roundw
                  case rel => exact ⟨j + 1, by omega, by go_num, hb8⟩
                  case measure => simp [intOf]; omega
              · go_wp2_with fail
                go_ret
                exact ⟨rfl, hB8⟩
          · have hp1 : decide (0 < n) = true := decide_eq_true hnp
            have hp2 : decide ((0 : Int) < (n : Int)) = true := by simp; omega
            have hp3 : (0 : Int) < (n : Int) := by omega
            rw [if_neg (by omega), hp1]
            obtain ⟨g5, hg5⟩ := HA5.out hnp
            subst hg5
            obtain ⟨b5, off5, hA5, hbb5, _, c9⟩ := HR7.out.get 0 hnp
            simp only [Option.some.injEq, Addr.mk.injEq, and_true] at hA5
            obtain ⟨rfl, rfl⟩ := hA5
            rw [top_head (by rw [← HNN.out]; exact hnp)] at c9
            obtain ⟨tp, htp⟩ : ∃ tp, tp = topL L := ⟨_, rfl⟩
            rw [← htp] at c9 ⊢
            simp only [Nat.zero_mul, Nat.zero_add] at c9
            go_wp2_with fail
            refine wp_region_held_drew (S := fun w' => w'.cell? ⟨g5, 1, none⟩ = some (.int .u64 tp)) (by kernel_rfl) (by first | exact cb32 | exact cb31 | exact cb22 | exact cb21 | exact cb12 | exact cb11 | exact c9) (fun _ => ?_)
            refine wpAnyH_take (i := 0) (oi := ({ dst := some 66, op := Op.move (Operand.tmp 9), type := 24, pos := _, after := #[], guard := none } : Oper)) (v := ?_) rfl (by kernel_rfl) (by kernel_rfl) (by kernel_rfl) (fun _ _ _ h => h) (Or.inl ⟨by rfl, ?_⟩) (by first | exact cb32 | exact cb31 | exact cb22 | exact cb21 | exact cb12 | exact cb11 | exact c9) ?_
            rotate_left
            · intro w hSw
              try dsimp only at hSw
              go_simp
              try with_reducible rfl
            try simp only [Act.put, List.setIfInBounds_toArray, List.set_cons_zero, List.set_cons_succ]
            refine wpAnyH_take (i := 2) (oi := ({ dst := some 68, op := Op.move (Operand.tmp 13), type := 22, pos := _, after := #[], guard := none } : Oper)) (v := ?_) rfl (by kernel_rfl) (by kernel_rfl) (by kernel_rfl) (fun _ _ _ h => h) (Or.inl ⟨by rfl, ?_⟩) (by first | exact cb32 | exact cb31 | exact cb22 | exact cb21 | exact cb12 | exact cb11 | exact c9) ?_
            rotate_left
            · intro w hSw
              try dsimp only at hSw
              go_simp
              try with_reducible rfl
            try simp only [Act.put, List.setIfInBounds_toArray, List.set_cons_zero, List.set_cons_succ]
            refine wpAnyH_ready (rs := [1]) (by kernel_rfl) (by simp) ?_
            refine AllReadyH.cons (o := ({ dst := some 67, op := Op.call { callee := Callee.value (Operand.func 13), args := #[Operand.tmp 66, Operand.const (Value.int IntKind.i64 1000)], argTypes := #[24, 3] }, type := 22, pos := _, after := #[{ on := 0, ground := Ground.data }], guard := none } : Oper)) rfl (fun K hK => ?_) AllReadyH.nil
            go_simp
            go_at_call 13
            (with_reducible refine (pl_rg (M := 1000) HR1.out (by rw [← HNN.out]; exact hLl) hs7 (by (repeat (first | with_reducible exact Below.refl _ _ | with_reducible assumption | with_reducible refine keepB_drew ?_ | with_reducible refine keepB_drewN ?_ _ | with_reducible refine keepB_alloc ?_ _)))).mono ?_)
            rintro e w11 ⟨v11, rfl, hr11, hb11⟩
            have cb11 := keepB_cell c9 _ hb11
            refine hK.out _ _ (by first | exact cb32 | exact cb31 | exact cb22 | exact cb21 | exact cb12 | exact cb11 | exact c9) (fun _ => ?_)
            clear hK K
            try simp only [Act.put, List.setIfInBounds_toArray, List.set_cons_zero, List.set_cons_succ]
            refine wpAnyH_ready (rs := [3]) (by kernel_rfl) (by simp) ?_
            refine AllReadyH.cons (o := ({ dst := some 69, op := Op.call { callee := Callee.value (Operand.func 12), args := #[Operand.tmp 67, Operand.tmp 68], argTypes := #[22, 22] }, type := 4, pos := _, after := #[{ on := 1, ground := Ground.data }, { on := 2, ground := Ground.data }, { on := 1, ground := Ground.chain }], guard := none } : Oper)) rfl (fun K hK => ?_) AllReadyH.nil
            go_simp
            go_at_call 12
            (with_reducible refine (pl_same (hr11.below (by (repeat (first | with_reducible exact Below.refl _ _ | with_reducible assumption | with_reducible refine keepB_drew ?_ | with_reducible refine keepB_drewN ?_ _ | with_reducible refine keepB_alloc ?_ _)))) (HR7.out.below (by (repeat (first | with_reducible exact Below.refl _ _ | with_reducible assumption | with_reducible refine keepB_drew ?_ | with_reducible refine keepB_drewN ?_ _ | with_reducible refine keepB_alloc ?_ _)))) (w9 := w9) (by (repeat (first | with_reducible exact Below.refl _ _ | with_reducible assumption | with_reducible refine keepB_drew ?_ | with_reducible refine keepB_drewN ?_ _ | with_reducible refine keepB_alloc ?_ _)))).mono ?_)
            rintro e w12 ⟨rfl, hb12⟩
            have cb12 := keepB_cell c9 _ hb12
            refine hK.out _ _ (by first | exact cb32 | exact cb31 | exact cb22 | exact cb21 | exact cb12 | exact cb11 | exact c9) (fun _ => ?_)
            clear hK K
            try simp only [Act.put, List.setIfInBounds_toArray, List.set_cons_zero, List.set_cons_succ]
            refine wpAnyH_take (i := 4) (oi := ({ dst := some 70, op := Op.unOp UnOp.not 4 (Operand.tmp 69), type := 4, pos := _, after := #[{ on := 3, ground := Ground.data }], guard := none } : Oper)) (v := ?_) rfl (by kernel_rfl) (by kernel_rfl) (by kernel_rfl) (fun _ _ _ h => h) (Or.inl ⟨by rfl, ?_⟩) (by first | exact cb32 | exact cb31 | exact cb22 | exact cb21 | exact cb12 | exact cb11 | exact c9) ?_
            rotate_left
            · intro w hSw
              try dsimp only at hSw
              go_simp
              try with_reducible rfl
            try simp only [Act.put, List.setIfInBounds_toArray, List.set_cons_zero, List.set_cons_succ]
            refine wpAnyH_take (i := 5) (oi := ({ dst := some 71, op := Op.move (Operand.tmp 70), type := 4, pos := _, after := #[{ on := 4, ground := Ground.data }, { on := 3, ground := Ground.chain }], guard := none } : Oper)) (v := ?_) rfl (by kernel_rfl) (by kernel_rfl) (by kernel_rfl) (fun _ _ _ h => h) (Or.inl ⟨by rfl, ?_⟩) (by first | exact cb32 | exact cb31 | exact cb22 | exact cb21 | exact cb12 | exact cb11 | exact c9) ?_
            rotate_left
            · intro w hSw
              try dsimp only at hSw
              go_simp
              try with_reducible rfl
            try simp only [Act.put, List.setIfInBounds_toArray, List.set_cons_zero, List.set_cons_succ]
            refine wpAnyH_take (i := 6) (oi := ({ dst := some 72, op := Op.move (Operand.tmp 9), type := 24, pos := _, after := #[{ on := 5, ground := Ground.guard }], guard := some (5, false) } : Oper)) (v := ?_) rfl (by kernel_rfl) (by kernel_rfl) (by kernel_rfl) (fun _ _ _ h => h) (Or.inl ⟨by rfl, ?_⟩) (by first | exact cb32 | exact cb31 | exact cb22 | exact cb21 | exact cb12 | exact cb11 | exact c9) ?_
            rotate_left
            · intro w hSw
              try dsimp only at hSw
              go_simp
              try with_reducible rfl
            try simp only [Act.put, List.setIfInBounds_toArray, List.set_cons_zero, List.set_cons_succ]
            refine wpAnyH_take (i := 7) (oi := ({ dst := some 73, op := Op.move (Operand.tmp 2), type := 3, pos := _, after := #[{ on := 5, ground := Ground.guard }], guard := some (5, false) } : Oper)) (v := ?_) rfl (by kernel_rfl) (by kernel_rfl) (by kernel_rfl) (fun _ _ _ h => h) (Or.inl ⟨by rfl, ?_⟩) (by first | exact cb32 | exact cb31 | exact cb22 | exact cb21 | exact cb12 | exact cb11 | exact c9) ?_
            rotate_left
            · intro w hSw
              try dsimp only at hSw
              go_simp
              try with_reducible rfl
            try simp only [Act.put, List.setIfInBounds_toArray, List.set_cons_zero, List.set_cons_succ]
            refine wpAnyH_take (i := 9) (oi := ({ dst := some 75, op := Op.move (Operand.tmp 13), type := 22, pos := _, after := #[{ on := 5, ground := Ground.guard }], guard := some (5, false) } : Oper)) (v := ?_) rfl (by kernel_rfl) (by kernel_rfl) (by kernel_rfl) (fun _ _ _ h => h) (Or.inl ⟨by rfl, ?_⟩) (by first | exact cb32 | exact cb31 | exact cb22 | exact cb21 | exact cb12 | exact cb11 | exact c9) ?_
            rotate_left
            · intro w hSw
              try dsimp only at hSw
              go_simp
              try with_reducible rfl
            try simp only [Act.put, List.setIfInBounds_toArray, List.set_cons_zero, List.set_cons_succ]
            refine wpAnyH_take (i := 10) (oi := ({ dst := some 76, op := Op.move (Operand.tmp 13), type := 22, pos := _, after := #[{ on := 5, ground := Ground.guard }], guard := some (5, false) } : Oper)) (v := ?_) rfl (by kernel_rfl) (by kernel_rfl) (by kernel_rfl) (fun _ _ _ h => h) (Or.inl ⟨by rfl, ?_⟩) (by first | exact cb32 | exact cb31 | exact cb22 | exact cb21 | exact cb12 | exact cb11 | exact c9) ?_
            rotate_left
            · intro w hSw
              try dsimp only at hSw
              go_simp
              try with_reducible rfl
            try simp only [Act.put, List.setIfInBounds_toArray, List.set_cons_zero, List.set_cons_succ]
            refine wpAnyH_take (i := 11) (oi := ({ dst := some 77, op := Op.call { callee := Callee.builtin Builtin.len, args := #[Operand.tmp 76], argTypes := #[22] }, type := 3, pos := _, after := #[{ on := 10, ground := Ground.data }, { on := 5, ground := Ground.guard }], guard := some (5, false) } : Oper)) (v := ?_) rfl (by kernel_rfl) (by kernel_rfl) (by kernel_rfl) (fun _ _ _ h => h) (Or.inl ⟨by rfl, ?_⟩) (by first | exact cb32 | exact cb31 | exact cb22 | exact cb21 | exact cb12 | exact cb11 | exact c9) ?_
            rotate_left
            · intro w hSw
              try dsimp only at hSw
              go_simp
              try with_reducible rfl
            try simp only [Act.put, List.setIfInBounds_toArray, List.set_cons_zero, List.set_cons_succ]
            refine wpAnyH_take (i := 12) (oi := ({ dst := some 78, op := Op.move (Operand.tmp 2), type := 3, pos := _, after := #[{ on := 5, ground := Ground.guard }], guard := some (5, false) } : Oper)) (v := ?_) rfl (by kernel_rfl) (by kernel_rfl) (by kernel_rfl) (fun _ _ _ h => h) (Or.inl ⟨by rfl, ?_⟩) (by first | exact cb32 | exact cb31 | exact cb22 | exact cb21 | exact cb12 | exact cb11 | exact c9) ?_
            rotate_left
            · intro w hSw
              try dsimp only at hSw
              go_simp
              try with_reducible rfl
            try simp only [Act.put, List.setIfInBounds_toArray, List.set_cons_zero, List.set_cons_succ]
            refine wpAnyH_take (i := 13) (oi := ({ dst := some 79, op := Op.call { callee := Callee.builtin Builtin.max, args := #[Operand.tmp 78, Operand.const (Value.int IntKind.i64 0)], argTypes := #[3, 3] }, type := 3, pos := _, after := #[{ on := 12, ground := Ground.data }, { on := 5, ground := Ground.guard }], guard := some (5, false) } : Oper)) (v := ?_) rfl (by kernel_rfl) (by kernel_rfl) (by kernel_rfl) (fun _ _ _ h => h) (Or.inl ⟨by rfl, ?_⟩) (by first | exact cb32 | exact cb31 | exact cb22 | exact cb21 | exact cb12 | exact cb11 | exact c9) ?_
            rotate_left
            · intro w hSw
              try dsimp only at hSw
              go_simp
              try with_reducible rfl
            try simp only [Act.put, List.setIfInBounds_toArray, List.set_cons_zero, List.set_cons_succ]
            refine wpAnyH_take (i := 14) (oi := ({ dst := some 80, op := Op.call { callee := Callee.builtin Builtin.min, args := #[Operand.tmp 77, Operand.tmp 79], argTypes := #[3, 3] }, type := 3, pos := _, after := #[{ on := 11, ground := Ground.data }, { on := 13, ground := Ground.data }, { on := 5, ground := Ground.guard }], guard := some (5, false) } : Oper)) (v := ?_) rfl (by kernel_rfl) (by kernel_rfl) (by kernel_rfl) (fun _ _ _ h => h) (Or.inl ⟨by rfl, ?_⟩) (by first | exact cb32 | exact cb31 | exact cb22 | exact cb21 | exact cb12 | exact cb11 | exact c9) ?_
            rotate_left
            · intro w hSw
              try dsimp only at hSw
              go_simp
              try with_reducible rfl
            try simp only [Act.put, List.setIfInBounds_toArray, List.set_cons_zero, List.set_cons_succ]
            refine wpAnyH_take (i := 15) (oi := ({ dst := some 81, op := Op.slice 22 (Operand.tmp 75) none (some (Operand.tmp 80)) none, type := 22, pos := _, after := #[{ on := 9, ground := Ground.data }, { on := 14, ground := Ground.data }, { on := 5, ground := Ground.guard }], guard := some (5, false) } : Oper)) (v := ?_) rfl (by kernel_rfl) (by kernel_rfl) (by kernel_rfl) (fun _ _ _ h => h) (Or.inl ⟨by rfl, ?_⟩) (by first | exact cb32 | exact cb31 | exact cb22 | exact cb21 | exact cb12 | exact cb11 | exact c9) ?_
            rotate_left
            · intro w hSw
              try dsimp only at hSw
              go_simp
              try with_reducible rfl
            try simp only [Act.put, List.setIfInBounds_toArray, List.set_cons_zero, List.set_cons_succ]
            refine wpAnyH_ready (rs := [8]) (by kernel_rfl) (by simp) ?_
            refine AllReadyH.cons (o := ({ dst := some 74, op := Op.call { callee := Callee.value (Operand.func 13), args := #[Operand.tmp 72, Operand.tmp 73], argTypes := #[24, 3] }, type := 22, pos := _, after := #[{ on := 6, ground := Ground.data }, { on := 7, ground := Ground.data }, { on := 5, ground := Ground.chain }, { on := 5, ground := Ground.guard }], guard := some (5, false) } : Oper)) rfl (fun K hK => ?_) AllReadyH.nil
            go_simp
            go_at_call 13
            (with_reducible refine (pl_rg (M := m) HRM.out (by rw [← HNN.out]; exact hLl) hs7 (by (repeat (first | with_reducible exact Below.refl _ _ | with_reducible assumption | with_reducible refine keepB_drew ?_ | with_reducible refine keepB_drewN ?_ _ | with_reducible refine keepB_alloc ?_ _)))).mono ?_)
            rintro e w21 ⟨v21, rfl, hr21, hb21⟩
            have cb21 := keepB_cell c9 _ hb21
            refine hK.out _ _ (by first | exact cb32 | exact cb31 | exact cb22 | exact cb21 | exact cb12 | exact cb11 | exact c9) (fun _ => ?_)
            clear hK K
            try simp only [Act.put, List.setIfInBounds_toArray, List.set_cons_zero, List.set_cons_succ]
            refine wpAnyH_ready (rs := [16]) (by kernel_rfl) (by simp) ?_
            refine AllReadyH.cons (o := ({ dst := some 82, op := Op.call { callee := Callee.value (Operand.func 12), args := #[Operand.tmp 74, Operand.tmp 81], argTypes := #[22, 22] }, type := 4, pos := _, after := #[{ on := 8, ground := Ground.data }, { on := 15, ground := Ground.data }, { on := 8, ground := Ground.chain }, { on := 5, ground := Ground.guard }], guard := some (5, false) } : Oper)) rfl (fun K hK => ?_) AllReadyH.nil
            go_simp
            go_at_call 12
            (with_reducible refine (pl_same (hr21.below (by (repeat (first | with_reducible exact Below.refl _ _ | with_reducible assumption | with_reducible refine keepB_drew ?_ | with_reducible refine keepB_drewN ?_ _ | with_reducible refine keepB_alloc ?_ _)))) (HRD.out.below (by (repeat (first | with_reducible exact Below.refl _ _ | with_reducible assumption | with_reducible refine keepB_drew ?_ | with_reducible refine keepB_drewN ?_ _ | with_reducible refine keepB_alloc ?_ _)))) (w9 := w9) (by (repeat (first | with_reducible exact Below.refl _ _ | with_reducible assumption | with_reducible refine keepB_drew ?_ | with_reducible refine keepB_drewN ?_ _ | with_reducible refine keepB_alloc ?_ _)))).mono ?_)
            rintro e w22 ⟨rfl, hb22⟩
            have cb22 := keepB_cell c9 _ hb22
            refine hK.out _ _ (by first | exact cb32 | exact cb31 | exact cb22 | exact cb21 | exact cb12 | exact cb11 | exact c9) (fun _ => ?_)
            clear hK K
            try simp only [Act.put, List.setIfInBounds_toArray, List.set_cons_zero, List.set_cons_succ]
            refine wpAnyH_take (i := 17) (oi := ({ dst := some 83, op := Op.unOp UnOp.not 4 (Operand.tmp 82), type := 4, pos := _, after := #[{ on := 16, ground := Ground.data }, { on := 5, ground := Ground.guard }], guard := some (5, false) } : Oper)) (v := ?_) rfl (by kernel_rfl) (by kernel_rfl) (by kernel_rfl) (fun _ _ _ h => h) (Or.inl ⟨by rfl, ?_⟩) (by first | exact cb32 | exact cb31 | exact cb22 | exact cb21 | exact cb12 | exact cb11 | exact c9) ?_
            rotate_left
            · intro w hSw
              try dsimp only at hSw
              go_simp
              try with_reducible rfl
            try simp only [Act.put, List.setIfInBounds_toArray, List.set_cons_zero, List.set_cons_succ]
            refine wpAnyH_take (i := 18) (oi := ({ dst := some 84, op := Op.pick (Operand.tmp 71) (Operand.const (Value.bool true)) (Operand.tmp 83), type := 4, pos := _, after := #[{ on := 5, ground := Ground.data }, { on := 17, ground := Ground.data }], guard := none } : Oper)) (v := ?_) rfl (by kernel_rfl) (by kernel_rfl) (by kernel_rfl) (fun _ _ _ h => h) (Or.inl ⟨by rfl, ?_⟩) (by first | exact cb32 | exact cb31 | exact cb22 | exact cb21 | exact cb12 | exact cb11 | exact c9) ?_
            rotate_left
            · intro w hSw
              try dsimp only at hSw
              go_simp
              try with_reducible rfl
            try simp only [Act.put, List.setIfInBounds_toArray, List.set_cons_zero, List.set_cons_succ]
            refine wpAnyH_take (i := 19) (oi := ({ dst := some 85, op := Op.move (Operand.tmp 84), type := 4, pos := _, after := #[{ on := 18, ground := Ground.data }, { on := 16, ground := Ground.chain }], guard := none } : Oper)) (v := ?_) rfl (by kernel_rfl) (by kernel_rfl) (by kernel_rfl) (fun _ _ _ h => h) (Or.inl ⟨by rfl, ?_⟩) (by first | exact cb32 | exact cb31 | exact cb22 | exact cb21 | exact cb12 | exact cb11 | exact c9) ?_
            rotate_left
            · intro w hSw
              try dsimp only at hSw
              go_simp
              try with_reducible rfl
            try simp only [Act.put, List.setIfInBounds_toArray, List.set_cons_zero, List.set_cons_succ]
            refine wpAnyH_take (i := 20) (oi := ({ dst := some 86, op := Op.move (Operand.tmp 9), type := 24, pos := _, after := #[{ on := 19, ground := Ground.guard }], guard := some (19, false) } : Oper)) (v := ?_) rfl (by kernel_rfl) (by kernel_rfl) (by kernel_rfl) (fun _ _ _ h => h) (Or.inl ⟨by rfl, ?_⟩) (by first | exact cb32 | exact cb31 | exact cb22 | exact cb21 | exact cb12 | exact cb11 | exact c9) ?_
            rotate_left
            · intro w hSw
              try dsimp only at hSw
              go_simp
              try with_reducible rfl
            try simp only [Act.put, List.setIfInBounds_toArray, List.set_cons_zero, List.set_cons_succ]
            refine wpAnyH_take (i := 22) (oi := ({ dst := some 88, op := Op.move (Operand.tmp 13), type := 22, pos := _, after := #[{ on := 19, ground := Ground.guard }], guard := some (19, false) } : Oper)) (v := ?_) rfl (by kernel_rfl) (by kernel_rfl) (by kernel_rfl) (fun _ _ _ h => h) (Or.inl ⟨by rfl, ?_⟩) (by first | exact cb32 | exact cb31 | exact cb22 | exact cb21 | exact cb12 | exact cb11 | exact c9) ?_
            rotate_left
            · intro w hSw
              try dsimp only at hSw
              go_simp
              try with_reducible rfl
            try simp only [Act.put, List.setIfInBounds_toArray, List.set_cons_zero, List.set_cons_succ]
            refine wpAnyH_take (i := 23) (oi := ({ dst := some 89, op := Op.call { callee := Callee.builtin Builtin.len, args := #[Operand.tmp 88], argTypes := #[22] }, type := 3, pos := _, after := #[{ on := 22, ground := Ground.data }, { on := 19, ground := Ground.guard }], guard := some (19, false) } : Oper)) (v := ?_) rfl (by kernel_rfl) (by kernel_rfl) (by kernel_rfl) (fun _ _ _ h => h) (Or.inl ⟨by rfl, ?_⟩) (by first | exact cb32 | exact cb31 | exact cb22 | exact cb21 | exact cb12 | exact cb11 | exact c9) ?_
            rotate_left
            · intro w hSw
              try dsimp only at hSw
              go_simp
              try with_reducible rfl
            try simp only [Act.put, List.setIfInBounds_toArray, List.set_cons_zero, List.set_cons_succ]
            refine wpAnyH_ready (rs := [21]) (by kernel_rfl) (by simp) ?_
            refine AllReadyH.cons (o := ({ dst := some 87, op := Op.call { callee := Callee.value (Operand.func 18), args := #[Operand.tmp 86], argTypes := #[24] }, type := 3, pos := _, after := #[{ on := 20, ground := Ground.data }, { on := 19, ground := Ground.chain }, { on := 19, ground := Ground.guard }], guard := some (19, false) } : Oper)) rfl (fun K hK => ?_) AllReadyH.nil
            go_simp
            go_at_call 18
            (with_reducible refine (pl_len HNN.out hs7 (by (repeat (first | with_reducible exact Below.refl _ _ | with_reducible assumption | with_reducible refine keepB_drew ?_ | with_reducible refine keepB_drewN ?_ _ | with_reducible refine keepB_alloc ?_ _)))).mono ?_)
            rintro e w31 ⟨rfl, hb31⟩
            have cb31 := keepB_cell c9 _ hb31
            refine hK.out _ _ (by first | exact cb32 | exact cb31 | exact cb22 | exact cb21 | exact cb12 | exact cb11 | exact c9) (fun _ => ?_)
            clear hK K
            try simp only [Act.put, List.setIfInBounds_toArray, List.set_cons_zero, List.set_cons_succ]
            refine wpAnyH_take (i := 24) (oi := ({ dst := some 90, op := Op.binOp BinOp.neq 3 (Operand.tmp 87) (Operand.tmp 89) 3, type := 4, pos := _, after := #[{ on := 21, ground := Ground.data }, { on := 23, ground := Ground.data }, { on := 19, ground := Ground.guard }], guard := some (19, false) } : Oper)) (v := ?_) rfl (by kernel_rfl) (by kernel_rfl) (by kernel_rfl) (fun _ _ _ h => h) (Or.inl ⟨by rfl, ?_⟩) (by first | exact cb32 | exact cb31 | exact cb22 | exact cb21 | exact cb12 | exact cb11 | exact c9) ?_
            rotate_left
            · intro w hSw
              try dsimp only at hSw
              go_simp
              try with_reducible rfl
            try simp only [Act.put, List.setIfInBounds_toArray, List.set_cons_zero, List.set_cons_succ]
            refine wpAnyH_take (i := 25) (oi := ({ dst := some 91, op := Op.pick (Operand.tmp 85) (Operand.const (Value.bool true)) (Operand.tmp 90), type := 4, pos := _, after := #[{ on := 19, ground := Ground.data }, { on := 24, ground := Ground.data }], guard := none } : Oper)) (v := ?_) rfl (by kernel_rfl) (by kernel_rfl) (by kernel_rfl) (fun _ _ _ h => h) (Or.inl ⟨by rfl, ?_⟩) (by first | exact cb32 | exact cb31 | exact cb22 | exact cb21 | exact cb12 | exact cb11 | exact c9) ?_
            rotate_left
            · intro w hSw
              try dsimp only at hSw
              go_simp
              try with_reducible rfl
            try simp only [Act.put, List.setIfInBounds_toArray, List.set_cons_zero, List.set_cons_succ]
            refine wpAnyH_take (i := 26) (oi := ({ dst := some 92, op := Op.move (Operand.tmp 91), type := 4, pos := _, after := #[{ on := 25, ground := Ground.data }, { on := 21, ground := Ground.chain }], guard := none } : Oper)) (v := ?_) rfl (by kernel_rfl) (by kernel_rfl) (by kernel_rfl) (fun _ _ _ h => h) (Or.inl ⟨by rfl, ?_⟩) (by first | exact cb32 | exact cb31 | exact cb22 | exact cb21 | exact cb12 | exact cb11 | exact c9) ?_
            rotate_left
            · intro w hSw
              try dsimp only at hSw
              go_simp
              try with_reducible rfl
            try simp only [Act.put, List.setIfInBounds_toArray, List.set_cons_zero, List.set_cons_succ]
            refine wpAnyH_take (i := 27) (oi := ({ dst := some 93, op := Op.move (Operand.tmp 9), type := 24, pos := _, after := #[{ on := 26, ground := Ground.guard }], guard := some (26, false) } : Oper)) (v := ?_) rfl (by kernel_rfl) (by kernel_rfl) (by kernel_rfl) (fun _ _ _ h => h) (Or.inl ⟨by rfl, ?_⟩) (by first | exact cb32 | exact cb31 | exact cb22 | exact cb21 | exact cb12 | exact cb11 | exact c9) ?_
            rotate_left
            · intro w hSw
              try dsimp only at hSw
              go_simp
              try with_reducible rfl
            try simp only [Act.put, List.setIfInBounds_toArray, List.set_cons_zero, List.set_cons_succ]
            refine wpAnyH_take (i := 29) (oi := ({ dst := some 95, op := Op.move (Operand.tmp 14), type := 28, pos := _, after := #[{ on := 26, ground := Ground.guard }], guard := some (26, false) } : Oper)) (v := ?_) rfl (by kernel_rfl) (by kernel_rfl) (by kernel_rfl) (fun _ _ _ h => h) (Or.inl ⟨by rfl, ?_⟩) (by first | exact cb32 | exact cb31 | exact cb22 | exact cb21 | exact cb12 | exact cb11 | exact c9) ?_
            rotate_left
            · intro w hSw
              try dsimp only at hSw
              go_simp
              try with_reducible rfl
            try simp only [Act.put, List.setIfInBounds_toArray, List.set_cons_zero, List.set_cons_succ]
            refine wpAnyH_ready (rs := [28]) (by kernel_rfl) (by simp) ?_
            refine AllReadyH.cons (o := ({ dst := some 94, op := Op.call { callee := Callee.value (Operand.func 21), args := #[Operand.tmp 93], argTypes := #[24] }, type := 28, pos := _, after := #[{ on := 27, ground := Ground.data }, { on := 26, ground := Ground.chain }, { on := 26, ground := Ground.guard }], guard := some (26, false) } : Oper)) rfl (fun K hK => ?_) AllReadyH.nil
            go_simp
            go_at_call 21
            (with_reducible refine (pl_cnt HC.out HN.out hs7 (by (repeat (first | with_reducible exact Below.refl _ _ | with_reducible assumption | with_reducible refine keepB_drew ?_ | with_reducible refine keepB_drewN ?_ _ | with_reducible refine keepB_alloc ?_ _)))).mono ?_)
            rintro e w32 ⟨rfl, hb32⟩
            have cb32 := keepB_cell c9 _ hb32
            refine hK.out _ _ (by first | exact cb32 | exact cb31 | exact cb22 | exact cb21 | exact cb12 | exact cb11 | exact c9) (fun _ => ?_)
            clear hK K
            try simp only [Act.put, List.setIfInBounds_toArray, List.set_cons_zero, List.set_cons_succ]
            refine wpAnyH_take (i := 30) (oi := ({ dst := some 96, op := Op.binOp BinOp.neq 28 (Operand.tmp 94) (Operand.tmp 95) 28, type := 4, pos := _, after := #[{ on := 28, ground := Ground.data }, { on := 29, ground := Ground.data }, { on := 26, ground := Ground.guard }], guard := some (26, false) } : Oper)) (v := ?_) rfl (by kernel_rfl) (by kernel_rfl) (by kernel_rfl) (fun _ _ _ h => h) (Or.inl ⟨by rfl, ?_⟩) (by first | exact cb32 | exact cb31 | exact cb22 | exact cb21 | exact cb12 | exact cb11 | exact c9) ?_
            rotate_left
            · intro w hSw
              try dsimp only at hSw
              go_simp
              try with_reducible rfl
            try simp only [Act.put, List.setIfInBounds_toArray, List.set_cons_zero, List.set_cons_succ]
            refine wpAnyH_take (i := 31) (oi := ({ dst := some 97, op := Op.pick (Operand.tmp 92) (Operand.const (Value.bool true)) (Operand.tmp 96), type := 4, pos := _, after := #[{ on := 26, ground := Ground.data }, { on := 30, ground := Ground.data }], guard := none } : Oper)) (v := ?_) rfl (by kernel_rfl) (by kernel_rfl) (by kernel_rfl) (fun _ _ _ h => h) (Or.inl ⟨by rfl, ?_⟩) (by first | exact cb32 | exact cb31 | exact cb22 | exact cb21 | exact cb12 | exact cb11 | exact c9) ?_
            rotate_left
            · intro w hSw
              try dsimp only at hSw
              go_simp
              try with_reducible rfl
            try simp only [Act.put, List.setIfInBounds_toArray, List.set_cons_zero, List.set_cons_succ]
            refine wpAnyH_take (i := 32) (oi := ({ dst := some 98, op := Op.move (Operand.tmp 97), type := 4, pos := _, after := #[{ on := 31, ground := Ground.data }, { on := 28, ground := Ground.chain }], guard := none } : Oper)) (v := ?_) rfl (by kernel_rfl) (by kernel_rfl) (by kernel_rfl) (fun _ _ _ h => h) (Or.inl ⟨by rfl, ?_⟩) (by first | exact cb32 | exact cb31 | exact cb22 | exact cb21 | exact cb12 | exact cb11 | exact c9) ?_
            rotate_left
            · intro w hSw
              try dsimp only at hSw
              go_simp
              try with_reducible rfl
            try simp only [Act.put, List.setIfInBounds_toArray, List.set_cons_zero, List.set_cons_succ]
            refine wpAnyH_take (i := 33) (oi := ({ dst := some 99, op := Op.move (Operand.tmp 18), type := 4, pos := _, after := #[{ on := 32, ground := Ground.guard }], guard := some (32, false) } : Oper)) (v := ?_) rfl (by kernel_rfl) (by kernel_rfl) (by kernel_rfl) (fun _ _ _ h => h) (Or.inl ⟨by rfl, ?_⟩) (by first | exact cb32 | exact cb31 | exact cb22 | exact cb21 | exact cb12 | exact cb11 | exact c9) ?_
            rotate_left
            · intro w hSw
              try dsimp only at hSw
              go_simp
              try with_reducible rfl
            try simp only [Act.put, List.setIfInBounds_toArray, List.set_cons_zero, List.set_cons_succ]
            refine wpAnyH_take (i := 34) (oi := ({ dst := some 100, op := Op.move (Operand.tmp 13), type := 22, pos := _, after := #[{ on := 32, ground := Ground.guard }], guard := some (32, false) } : Oper)) (v := ?_) rfl (by kernel_rfl) (by kernel_rfl) (by kernel_rfl) (fun _ _ _ h => h) (Or.inl ⟨by rfl, ?_⟩) (by first | exact cb32 | exact cb31 | exact cb22 | exact cb21 | exact cb12 | exact cb11 | exact c9) ?_
            rotate_left
            · intro w hSw
              try dsimp only at hSw
              go_simp
              try with_reducible rfl
            try simp only [Act.put, List.setIfInBounds_toArray, List.set_cons_zero, List.set_cons_succ]
            refine wpAnyH_take (i := 35) (oi := ({ dst := some 101, op := Op.call { callee := Callee.builtin Builtin.len, args := #[Operand.tmp 100], argTypes := #[22] }, type := 3, pos := _, after := #[{ on := 34, ground := Ground.data }, { on := 32, ground := Ground.guard }], guard := some (32, false) } : Oper)) (v := ?_) rfl (by kernel_rfl) (by kernel_rfl) (by kernel_rfl) (fun _ _ _ h => h) (Or.inl ⟨by rfl, ?_⟩) (by first | exact cb32 | exact cb31 | exact cb22 | exact cb21 | exact cb12 | exact cb11 | exact c9) ?_
            rotate_left
            · intro w hSw
              try dsimp only at hSw
              go_simp
              try with_reducible rfl
            try simp only [Act.put, List.setIfInBounds_toArray, List.set_cons_zero, List.set_cons_succ]
            refine wpAnyH_take (i := 36) (oi := ({ dst := some 102, op := Op.binOp BinOp.gtr 3 (Operand.tmp 101) (Operand.const (Value.int IntKind.i64 0)) 3, type := 4, pos := _, after := #[{ on := 35, ground := Ground.data }, { on := 32, ground := Ground.guard }], guard := some (32, false) } : Oper)) (v := ?_) rfl (by kernel_rfl) (by kernel_rfl) (by kernel_rfl) (fun _ _ _ h => h) (Or.inl ⟨by rfl, ?_⟩) (by first | exact cb32 | exact cb31 | exact cb22 | exact cb21 | exact cb12 | exact cb11 | exact c9) ?_
            rotate_left
            · intro w hSw
              try dsimp only at hSw
              go_simp
              try with_reducible rfl
            try simp only [Act.put, List.setIfInBounds_toArray, List.set_cons_zero, List.set_cons_succ]
            refine wpAnyH_take (i := 37) (oi := ({ dst := some 103, op := Op.binOp BinOp.neq 4 (Operand.tmp 99) (Operand.tmp 102) 4, type := 4, pos := _, after := #[{ on := 33, ground := Ground.data }, { on := 36, ground := Ground.data }, { on := 32, ground := Ground.guard }], guard := some (32, false) } : Oper)) (v := ?_) rfl (by kernel_rfl) (by kernel_rfl) (by kernel_rfl) (fun _ _ _ h => h) (Or.inl ⟨by rfl, ?_⟩) (by first | exact cb32 | exact cb31 | exact cb22 | exact cb21 | exact cb12 | exact cb11 | exact c9) ?_
            rotate_left
            · intro w hSw
              try dsimp only at hSw
              go_simp
              try with_reducible rfl
            try simp only [Act.put, List.setIfInBounds_toArray, List.set_cons_zero, List.set_cons_succ]
            refine wpAnyH_take (i := 38) (oi := ({ dst := some 104, op := Op.pick (Operand.tmp 98) (Operand.const (Value.bool true)) (Operand.tmp 103), type := 4, pos := _, after := #[{ on := 32, ground := Ground.data }, { on := 37, ground := Ground.data }], guard := none } : Oper)) (v := ?_) rfl (by kernel_rfl) (by kernel_rfl) (by kernel_rfl) (fun _ _ _ h => h) (Or.inl ⟨by rfl, ?_⟩) (by first | exact cb32 | exact cb31 | exact cb22 | exact cb21 | exact cb12 | exact cb11 | exact c9) ?_
            rotate_left
            · intro w hSw
              try dsimp only at hSw
              go_simp
              try with_reducible rfl
            try simp only [Act.put, List.setIfInBounds_toArray, List.set_cons_zero, List.set_cons_succ]
            refine wpAnyH_take (i := 39) (oi := ({ dst := some 105, op := Op.move (Operand.tmp 104), type := 4, pos := _, after := #[{ on := 38, ground := Ground.data }, { on := 32, ground := Ground.chain }], guard := none } : Oper)) (v := ?_) rfl (by kernel_rfl) (by kernel_rfl) (by kernel_rfl) (fun _ _ _ h => h) (Or.inl ⟨by rfl, ?_⟩) (by first | exact cb32 | exact cb31 | exact cb22 | exact cb21 | exact cb12 | exact cb11 | exact c9) ?_
            rotate_left
            · intro w hSw
              try dsimp only at hSw
              go_simp
              try with_reducible rfl
            try simp only [Act.put, List.setIfInBounds_toArray, List.set_cons_zero, List.set_cons_succ]
            refine wpAnyH_take (i := 40) (oi := ({ dst := some 106, op := Op.move (Operand.tmp 18), type := 4, pos := _, after := #[{ on := 39, ground := Ground.guard }], guard := some (39, false) } : Oper)) (v := ?_) rfl (by kernel_rfl) (by kernel_rfl) (by kernel_rfl) (fun _ _ _ h => h) (Or.inl ⟨by rfl, ?_⟩) (by first | exact cb32 | exact cb31 | exact cb22 | exact cb21 | exact cb12 | exact cb11 | exact c9) ?_
            rotate_left
            · intro w hSw
              try dsimp only at hSw
              go_simp
              try with_reducible rfl
            try simp only [Act.put, List.setIfInBounds_toArray, List.set_cons_zero, List.set_cons_succ]
            refine wpAnyH_take (i := 41) (oi := ({ dst := some 107, op := Op.move (Operand.tmp 106), type := 4, pos := _, after := #[{ on := 40, ground := Ground.data }, { on := 39, ground := Ground.chain }, { on := 39, ground := Ground.guard }], guard := some (39, false) } : Oper)) (v := ?_) rfl (by kernel_rfl) (by kernel_rfl) (by kernel_rfl) (fun _ _ _ h => h) (Or.inl ⟨by rfl, ?_⟩) (by first | exact cb32 | exact cb31 | exact cb22 | exact cb21 | exact cb12 | exact cb11 | exact c9) ?_
            rotate_left
            · intro w hSw
              try dsimp only at hSw
              go_simp
              try with_reducible rfl
            try simp only [Act.put, List.setIfInBounds_toArray, List.set_cons_zero, List.set_cons_succ]
            refine wpAnyH_take (i := 42) (oi := ({ dst := some 108, op := Op.move (Operand.tmp 17), type := 28, pos := _, after := #[{ on := 41, ground := Ground.guard }], guard := some (41, true) } : Oper)) (v := ?_) rfl (by kernel_rfl) (by kernel_rfl) (by kernel_rfl) (fun _ _ _ h => h) (Or.inl ⟨by rfl, ?_⟩) (by first | exact cb32 | exact cb31 | exact cb22 | exact cb21 | exact cb12 | exact cb11 | exact c9) ?_
            rotate_left
            · intro w hSw
              try dsimp only at hSw
              go_simp
              try with_reducible rfl
            try simp only [Act.put, List.setIfInBounds_toArray, List.set_cons_zero, List.set_cons_succ]
            refine wpAnyH_take (i := 43) (oi := ({ dst := some 109, op := Op.move (Operand.tmp 13), type := 22, pos := _, after := #[{ on := 41, ground := Ground.guard }], guard := some (41, true) } : Oper)) (v := ?_) rfl (by kernel_rfl) (by kernel_rfl) (by kernel_rfl) (fun _ _ _ h => h) (Or.inl ⟨by rfl, ?_⟩) (by first | exact cb32 | exact cb31 | exact cb22 | exact cb21 | exact cb12 | exact cb11 | exact c9) ?_
            rotate_left
            · intro w hSw
              try dsimp only at hSw
              go_simp
              try with_reducible rfl
            try simp only [Act.put, List.setIfInBounds_toArray, List.set_cons_zero, List.set_cons_succ]
            refine wpAnyH_take (i := 44) (oi := ({ dst := some 110, op := Op.indexAddr 22 (Operand.tmp 109) (Operand.const (Value.int IntKind.i64 0)), type := 0, pos := _, after := #[{ on := 43, ground := Ground.data }, { on := 41, ground := Ground.guard }], guard := some (41, true) } : Oper)) (v := ?_) rfl (by kernel_rfl) (by kernel_rfl) (by kernel_rfl) (fun _ _ _ h => h) (Or.inl ⟨by rfl, ?_⟩) (by first | exact cb32 | exact cb31 | exact cb22 | exact cb21 | exact cb12 | exact cb11 | exact c9) ?_
            rotate_left
            · intro w hSw
              try dsimp only at hSw
              go_simp
              try with_reducible rfl
            try simp only [Act.put, List.setIfInBounds_toArray, List.set_cons_zero, List.set_cons_succ]
            refine wpAnyH_take (i := 45) (oi := ({ dst := some 111, op := Op.fieldAddr 30 (Operand.tmp 110) 1, type := 0, pos := _, after := #[{ on := 44, ground := Ground.data }, { on := 41, ground := Ground.guard }], guard := some (41, true) } : Oper)) (v := ?_) rfl (by kernel_rfl) (by kernel_rfl) (by kernel_rfl) (fun _ _ _ h => h) (Or.inl ⟨by rfl, ?_⟩) (by first | exact cb32 | exact cb31 | exact cb22 | exact cb21 | exact cb12 | exact cb11 | exact c9) ?_
            rotate_left
            · intro w hSw
              try dsimp only at hSw
              go_simp
              try with_reducible rfl
            try simp only [Act.put, List.setIfInBounds_toArray, List.set_cons_zero, List.set_cons_succ]
            refine wpAnyH_take (i := 46) (oi := ({ dst := some 112, op := Op.load 28 (Operand.tmp 111), type := 28, pos := _, after := #[{ on := 45, ground := Ground.data }, { on := 41, ground := Ground.guard }], guard := some (41, true) } : Oper)) (v := ?_) rfl (by kernel_rfl) (by kernel_rfl) (by kernel_rfl) (fun _ _ _ h => h) (Or.inl ⟨by rfl, ?_⟩) (by first | exact cb32 | exact cb31 | exact cb22 | exact cb21 | exact cb12 | exact cb11 | exact c9) ?_
            rotate_left
            · intro w hSw
              try dsimp only at hSw
              go_simp
              try with_reducible rfl
            try simp only [Act.put, List.setIfInBounds_toArray, List.set_cons_zero, List.set_cons_succ]
            refine wpAnyH_take (i := 47) (oi := ({ dst := some 113, op := Op.binOp BinOp.neq 28 (Operand.tmp 108) (Operand.tmp 112) 28, type := 4, pos := _, after := #[{ on := 42, ground := Ground.data }, { on := 46, ground := Ground.data }, { on := 41, ground := Ground.guard }], guard := some (41, true) } : Oper)) (v := ?_) rfl (by kernel_rfl) (by kernel_rfl) (by kernel_rfl) (fun _ _ _ h => h) (Or.inl ⟨by rfl, ?_⟩) (by first | exact cb32 | exact cb31 | exact cb22 | exact cb21 | exact cb12 | exact cb11 | exact c9) ?_
            rotate_left
            · intro w hSw
              try dsimp only at hSw
              go_simp
              try with_reducible rfl
            try simp only [Act.put, List.setIfInBounds_toArray, List.set_cons_zero, List.set_cons_succ]
            refine wpAnyH_take (i := 48) (oi := ({ dst := some 114, op := Op.pick (Operand.tmp 107) (Operand.tmp 113) (Operand.const (Value.bool false)), type := 4, pos := _, after := #[{ on := 41, ground := Ground.data }, { on := 47, ground := Ground.data }, { on := 39, ground := Ground.guard }], guard := some (39, false) } : Oper)) (v := ?_) rfl (by kernel_rfl) (by kernel_rfl) (by kernel_rfl) (fun _ _ _ h => h) (Or.inl ⟨by rfl, ?_⟩) (by first | exact cb32 | exact cb31 | exact cb22 | exact cb21 | exact cb12 | exact cb11 | exact c9) ?_
            rotate_left
            · intro w hSw
              try dsimp only at hSw
              go_simp
              try with_reducible rfl
            try simp only [Act.put, List.setIfInBounds_toArray, List.set_cons_zero, List.set_cons_succ]
            refine wpAnyH_take (i := 49) (oi := ({ dst := some 115, op := Op.pick (Operand.tmp 105) (Operand.const (Value.bool true)) (Operand.tmp 114), type := 4, pos := _, after := #[{ on := 39, ground := Ground.data }, { on := 48, ground := Ground.data }], guard := none } : Oper)) (v := ?_) rfl (by kernel_rfl) (by kernel_rfl) (by kernel_rfl) (fun _ _ _ h => h) (Or.inl ⟨by rfl, ?_⟩) (by first | exact cb32 | exact cb31 | exact cb22 | exact cb21 | exact cb12 | exact cb11 | exact c9) ?_
            rotate_left
            · intro w hSw
              try dsimp only at hSw
              go_simp
              try with_reducible rfl
            try simp only [Act.put, List.setIfInBounds_toArray, List.set_cons_zero, List.set_cons_succ]
            refine wpAnyH_done (by kernel_rfl) ?_ _
            go_wp2_with fail
            refine wp_world (fun wz => Below w9.heap.size w9 wz) (by (repeat (first | with_reducible exact Below.refl _ _ | with_reducible assumption | with_reducible refine keepB_drew ?_ | with_reducible refine keepB_drewN ?_ _ | with_reducible refine keepB_alloc ?_ _))) ?_
            rintro wz hbz
            have hs9 := hs7.below hbz
            have hx9 := hx7.below hbz
            have hB9 := hB7.trans (hbz.mono hB7.size)
            clear hs7 hx7 hB7 hbz HR7 HRD HRM HR1 hmx hmn hmn2 c9 htp
            clear hr11 hr21 hb11 hb12 hb21 hb22 hb31 hb32 cb11 cb12 cb21 cb22 cb31 cb32
            go_loopw [118] (fun sc wr => ∃ (j : Nat), j ≤ q ∧ sc = .int .i64 j ∧ Below wz.heap.size wz wr) (fun sc _ => q - (intOf sc).toNat)
            case atStart => exact ⟨0, Nat.zero_le _, rfl, Below.refl _ _⟩
            case round =>
              obtain ⟨j, hjn, rfl, hb8⟩ := hrel
              have hs8 := hs9.below hb8
              have hx8 := hx9.below hb8
              have hB8 := hB9.trans (hb8.mono hB9.size)
              by_cases hj : j < q
              · obtain ⟨b3, off3, rfl, hbb3, c3⟩ := (HV.out.below hB8).at_ j (by rw [← HNL.out]; exact hj)
                obtain ⟨x, hx⟩ : ∃ x, x = l.getD j 0 := ⟨_, rfl⟩
                rw [← hx] at c3
                clear hx
                by_cases hj20 : j < 20
                · have hj20' : (j : Int) < 20 := by omega
                  have hbe := hasB_rp HRp.out x
                  obtain ⟨r, hr⟩ : ∃ r, r = hasB L x := ⟨_, rfl⟩
                  rw [← hr] at hbe
                  have HBE := Lib.hid hbe
                  have HRx := Lib.hid hr.symm
                  obtain ⟨y, hy⟩ : ∃ y, y = holeL L x := ⟨_, rfl⟩
                  have HY := Lib.hid hy.symm
                  clear hbe hr hy
                  cases r
                  all_goals
                    go_wp2_with fail
                    (with_reducible refine (has_any w.heap.size g rb L x _ hs8 HN.out).mono ?_)
                    rintro e w11 ⟨rfl, hb11⟩
                    rw [HRx.out]
                    have hs11 := hs8.below hb11
                    have hx11 := hx8.below hb11
                    have hbb11 := hb8.trans (hb11.mono hb8.size)
                    clear c3 hs8 hx8 hb11 hB8
                    go_wp2_with fail
                    (with_reducible refine (hasR_any w.heap.size gx rx R x _ hx11 (by omega)).mono ?_)
                    rintro e w12 ⟨rfl, hb12⟩
                    rw [HBE.out]
                    have hs12 := hs11.below hb12
                    have hx12 := hx11.below hb12
                    have hbb12 := hbb11.trans (hb12.mono hbb11.size)
                    clear hs11 hx11 hb12 hbb11
                    go_wp2_with fail
                    (with_reducible refine (hole_any w.heap.size g rb L x _ hs12 HN.out).mono ?_)
                    rintro e w13 ⟨rfl, hb13⟩
                    rw [HY.out]
                    have hx13 := hx12.below hb13
                    have hbb13 := hbb12.trans (hb13.mono hbb12.size)
                    clear hs12 hx12 hb13 hbb12
                    go_wp2_with fail
                    (with_reducible refine (holeR_any w.heap.size gx rx R L x _ hx13 HRp.out (by omega)).mono ?_)
                    rintro e w14 ⟨rfl, hb14⟩
                    rw [HY.out]
                    have hbb14 := hbb13.trans (hb14.mono hbb13.size)
                    clear hx13 hb14 hbb13
                    go_wp2_with fail
                    go_roundw
                    case rel => exact ⟨j + 1, by omega, by go_num, hbb14⟩
                    case measure => simp [intOf]; omega
                · have hj20' : decide ((j : Int) < 20) = false := by simp; omega
                  go_wp2_with fail
                  go_roundw
                  case rel => exact ⟨j + 1, by omega, by go_num, hb8⟩
                  case measure => simp [intOf]; omega
              · go_wp2_with fail
                go_ret
                exact ⟨rfl, hB8⟩
set_option maxHeartbeats 16000000 in
set_option maxRecDepth 100000 in
theorem plays_none (A : Option Addr) (N cap : Nat) (d f t : Nat → Int) (m : Int) (v : Value) (l : List Int) (w : World) (hS : Scr w A N d f t) (hN0 : N ≤ 9223372036854775807) (hm : -9223372036854775808 ≤ m ∧ m ≤ 9223372036854775807) (hv : Rd w .u64 v l) (hl : ∀ x ∈ l, 0 ≤ x ∧ x ≤ 18446744073709551615) :
    Calls Try.prog 8 #[.bool true, .slice A N cap, .int .i64 m, v] w fun e w' => e = .returned (.bool true) ∧ Below w.heap.size w w' := by
  obtain ⟨A3, cap3, rfl⟩ := hv.form
  obtain ⟨_, _, hc3a, hc3b, _⟩ := hv.rdv
  have hc3' : cap3 ≤ 9223372036854775807 := by unfold maxLen at hc3b; omega
  obtain ⟨q, hq⟩ : ∃ q, q = l.length := ⟨_, rfl⟩
  rw [← hq] at hv hc3a ⊢
  have HV := Lib.hid hv
  have HNL := Lib.hid hq
  clear hv hq hl hc3b
  have HS := Lib.hid hS
  clear hS
  go_enter Try.func8, Try.ntmps8
  go_wp2_with fail
  refine (awake_any _).mono ?_
  rintro e w1 ⟨rfl, hB1⟩
  go_wp2_with fail
  refine (new_any _ [] _ (RdP.nil _) (fun p hp => by simp at hp) (by decide)).mono ?_
  rintro e w2 ⟨g, rb0, rfl, _, hb2⟩
  have hB2 := hB1.trans (hb2.mono hB1.size)
  have hB3 := hB2.alloc hB2.size (.cells #[.slice none 0 0] 37)
  clear hB1 hb2 hB2
  go_wp2_with fail
  go_loopw [29] (fun sc wr => ∃ (k : Nat), k ≤ N ∧ sc = .int .i64 k ∧ Below w.heap.size w wr) (fun sc _ => N - (intOf sc).toNat)
  case atStart => exact ⟨0, Nat.zero_le _, rfl, hB3⟩
  case round =>
    clear hB3
    obtain ⟨k, hkN, rfl, hB⟩ := hrel
    by_cases hk : k < N
    · obtain ⟨bb, off, rfl, hbb, d0, d1, d2⟩ := (HS.out.below hB).at_ k hk
      have hdb := HS.out.db k hk
      have hfb := HS.out.fb k hk
      have htb := HS.out.tb k hk
      obtain ⟨dk, hdk⟩ : ∃ x, x = d k := ⟨_, rfl⟩
      obtain ⟨fk, hfk⟩ : ∃ x, x = f k := ⟨_, rfl⟩
      obtain ⟨tk, htk⟩ : ∃ x, x = t k := ⟨_, rfl⟩
      rw [← hdk] at d0 hdb
      rw [← hfk] at d1 hfb
      rw [← htk] at d2 htb
      clear hdk hfk htk
      have hBo := hB.alloc hB.size (.cells #[.int .u8 dk, .int .u64 fk, .int .u64 tk] 39)
      by_cases h30 : k < 30
      · have h30' : (k : Int) < 30 := by omega
        go_wp2_with fail
        (with_reducible refine (do_nil dk fk tk _ hdb hfb htb).mono ?_)
        rintro e w4 ⟨rfl, hb4⟩
        have hB4 := hBo.trans (hb4.mono hBo.size)
        clear d0 d1 d2 hBo hB hb4
        go_wp2_with fail
        go_roundw
        case rel => exact ⟨k + 1, by omega, by go_num, hB4⟩
        case measure => simp [intOf]; omega
      · have h30' : decide ((k : Int) < 30) = false := by simp; omega
        go_wp2_with fail
        clear d0 d1 d2
        go_roundw
        case rel => exact ⟨k + 1, by omega, by go_num, hBo⟩
        case measure => simp [intOf]; omega
    · clear hkN
      go_wp2_with fail
      clear hk
      refine (rangesR_nil _).mono ?_
      rintro e w5 ⟨rfl, rfl⟩
      go_wp2_with fail
      go_loopw [14, 48] (fun s14 s48 wx => s14 = .int .u64 0 ∧ s48 = .int .i64 0 ∧ wx = wr) (fun _ s48 _ => 0)
      case atStart => exact ⟨rfl, rfl, rfl⟩
      case round =>
        obtain ⟨rfl, rfl, rfl⟩ := hrel
        go_wp2_with fail
        refine (top_nil _).mono ?_
        rintro e w7 ⟨rfl, rfl⟩
        obtain ⟨kk, hkk⟩ : ∃ kk : Nat, (kk : Int) = max m 0 := ⟨(max m 0).toNat, by omega⟩
        have hmx : (if m < 0 then (0 : Int) else m) = (kk : Int) := by split <;> omega
        have hmn : (if (kk : Int) < 0 then (kk : Int) else 0) = 0 := by split <;> omega
        have hmn3 : ¬ (kk : Int) < 0 := by omega
        clear hkk
        go_wp2_with fail
        refine wp_region_held_drew (S := fun _ => True) (by kernel_rfl) (trivial) (fun _ => ?_)
        refine wpAnyH_take (i := 0) (oi := ({ dst := some 66, op := Op.move (Operand.tmp 9), type := 24, pos := _, after := #[], guard := none } : Oper)) (v := ?_) rfl (by kernel_rfl) (by kernel_rfl) (by kernel_rfl) (fun _ _ _ h => h) (Or.inl ⟨by rfl, ?_⟩) (trivial) ?_
        rotate_left
        · intro w hSw
          try dsimp only at hSw
          go_simp
          try with_reducible rfl
        try simp only [Act.put, List.setIfInBounds_toArray, List.set_cons_zero, List.set_cons_succ]
        refine wpAnyH_take (i := 2) (oi := ({ dst := some 68, op := Op.move (Operand.tmp 13), type := 22, pos := _, after := #[], guard := none } : Oper)) (v := ?_) rfl (by kernel_rfl) (by kernel_rfl) (by kernel_rfl) (fun _ _ _ h => h) (Or.inl ⟨by rfl, ?_⟩) (trivial) ?_
        rotate_left
        · intro w hSw
          try dsimp only at hSw
          go_simp
          try with_reducible rfl
        try simp only [Act.put, List.setIfInBounds_toArray, List.set_cons_zero, List.set_cons_succ]
        refine wpAnyH_ready (rs := [1]) (by kernel_rfl) (by simp) ?_
        refine AllReadyH.cons (o := ({ dst := some 67, op := Op.call { callee := Callee.value (Operand.func 13), args := #[Operand.tmp 66, Operand.const (Value.int IntKind.i64 1000)], argTypes := #[24, 3] }, type := 22, pos := _, after := #[{ on := 0, ground := Ground.data }], guard := none } : Oper)) rfl (fun K hK => ?_) AllReadyH.nil
        go_simp
        go_at_call 13
        (with_reducible refine (nl_rg (w9 := wr) (M := 1000) (by (repeat (first | with_reducible exact Below.refl _ _ | with_reducible assumption | with_reducible refine keepB_drew ?_ | with_reducible refine keepB_drewN ?_ _ | with_reducible refine keepB_alloc ?_ _)))).mono ?_)
        rintro e w11 ⟨rfl, hb11⟩
        refine hK.out _ _ (trivial) (fun _ => ?_)
        clear hK K
        try simp only [Act.put, List.setIfInBounds_toArray, List.set_cons_zero, List.set_cons_succ]
        refine wpAnyH_ready (rs := [3]) (by kernel_rfl) (by simp) ?_
        refine AllReadyH.cons (o := ({ dst := some 69, op := Op.call { callee := Callee.value (Operand.func 12), args := #[Operand.tmp 67, Operand.tmp 68], argTypes := #[22, 22] }, type := 4, pos := _, after := #[{ on := 1, ground := Ground.data }, { on := 2, ground := Ground.data }, { on := 1, ground := Ground.chain }], guard := none } : Oper)) rfl (fun K hK => ?_) AllReadyH.nil
        go_simp
        go_at_call 12
        (with_reducible refine (nl_same (w9 := wr) (by (repeat (first | with_reducible exact Below.refl _ _ | with_reducible assumption | with_reducible refine keepB_drew ?_ | with_reducible refine keepB_drewN ?_ _ | with_reducible refine keepB_alloc ?_ _)))).mono ?_)
        rintro e w23 ⟨rfl, hb23⟩
        refine hK.out _ _ (trivial) (fun _ => ?_)
        clear hK K
        try simp only [Act.put, List.setIfInBounds_toArray, List.set_cons_zero, List.set_cons_succ]
        refine wpAnyH_take (i := 4) (oi := ({ dst := some 70, op := Op.unOp UnOp.not 4 (Operand.tmp 69), type := 4, pos := _, after := #[{ on := 3, ground := Ground.data }], guard := none } : Oper)) (v := ?_) rfl (by kernel_rfl) (by kernel_rfl) (by kernel_rfl) (fun _ _ _ h => h) (Or.inl ⟨by rfl, ?_⟩) (trivial) ?_
        rotate_left
        · intro w hSw
          try dsimp only at hSw
          go_simp
          try with_reducible rfl
        try simp only [Act.put, List.setIfInBounds_toArray, List.set_cons_zero, List.set_cons_succ]
        refine wpAnyH_take (i := 5) (oi := ({ dst := some 71, op := Op.move (Operand.tmp 70), type := 4, pos := _, after := #[{ on := 4, ground := Ground.data }, { on := 3, ground := Ground.chain }], guard := none } : Oper)) (v := ?_) rfl (by kernel_rfl) (by kernel_rfl) (by kernel_rfl) (fun _ _ _ h => h) (Or.inl ⟨by rfl, ?_⟩) (trivial) ?_
        rotate_left
        · intro w hSw
          try dsimp only at hSw
          go_simp
          try with_reducible rfl
        try simp only [Act.put, List.setIfInBounds_toArray, List.set_cons_zero, List.set_cons_succ]
        refine wpAnyH_take (i := 6) (oi := ({ dst := some 72, op := Op.move (Operand.tmp 9), type := 24, pos := _, after := #[{ on := 5, ground := Ground.guard }], guard := some (5, false) } : Oper)) (v := ?_) rfl (by kernel_rfl) (by kernel_rfl) (by kernel_rfl) (fun _ _ _ h => h) (Or.inl ⟨by rfl, ?_⟩) (trivial) ?_
        rotate_left
        · intro w hSw
          try dsimp only at hSw
          go_simp
          try with_reducible rfl
        try simp only [Act.put, List.setIfInBounds_toArray, List.set_cons_zero, List.set_cons_succ]
        refine wpAnyH_take (i := 7) (oi := ({ dst := some 73, op := Op.move (Operand.tmp 2), type := 3, pos := _, after := #[{ on := 5, ground := Ground.guard }], guard := some (5, false) } : Oper)) (v := ?_) rfl (by kernel_rfl) (by kernel_rfl) (by kernel_rfl) (fun _ _ _ h => h) (Or.inl ⟨by rfl, ?_⟩) (trivial) ?_
        rotate_left
        · intro w hSw
          try dsimp only at hSw
          go_simp
          try with_reducible rfl
        try simp only [Act.put, List.setIfInBounds_toArray, List.set_cons_zero, List.set_cons_succ]
        refine wpAnyH_take (i := 9) (oi := ({ dst := some 75, op := Op.move (Operand.tmp 13), type := 22, pos := _, after := #[{ on := 5, ground := Ground.guard }], guard := some (5, false) } : Oper)) (v := ?_) rfl (by kernel_rfl) (by kernel_rfl) (by kernel_rfl) (fun _ _ _ h => h) (Or.inl ⟨by rfl, ?_⟩) (trivial) ?_
        rotate_left
        · intro w hSw
          try dsimp only at hSw
          go_simp
          try with_reducible rfl
        try simp only [Act.put, List.setIfInBounds_toArray, List.set_cons_zero, List.set_cons_succ]
        refine wpAnyH_take (i := 10) (oi := ({ dst := some 76, op := Op.move (Operand.tmp 13), type := 22, pos := _, after := #[{ on := 5, ground := Ground.guard }], guard := some (5, false) } : Oper)) (v := ?_) rfl (by kernel_rfl) (by kernel_rfl) (by kernel_rfl) (fun _ _ _ h => h) (Or.inl ⟨by rfl, ?_⟩) (trivial) ?_
        rotate_left
        · intro w hSw
          try dsimp only at hSw
          go_simp
          try with_reducible rfl
        try simp only [Act.put, List.setIfInBounds_toArray, List.set_cons_zero, List.set_cons_succ]
        refine wpAnyH_take (i := 11) (oi := ({ dst := some 77, op := Op.call { callee := Callee.builtin Builtin.len, args := #[Operand.tmp 76], argTypes := #[22] }, type := 3, pos := _, after := #[{ on := 10, ground := Ground.data }, { on := 5, ground := Ground.guard }], guard := some (5, false) } : Oper)) (v := ?_) rfl (by kernel_rfl) (by kernel_rfl) (by kernel_rfl) (fun _ _ _ h => h) (Or.inl ⟨by rfl, ?_⟩) (trivial) ?_
        rotate_left
        · intro w hSw
          try dsimp only at hSw
          go_simp
          try with_reducible rfl
        try simp only [Act.put, List.setIfInBounds_toArray, List.set_cons_zero, List.set_cons_succ]
        refine wpAnyH_take (i := 12) (oi := ({ dst := some 78, op := Op.move (Operand.tmp 2), type := 3, pos := _, after := #[{ on := 5, ground := Ground.guard }], guard := some (5, false) } : Oper)) (v := ?_) rfl (by kernel_rfl) (by kernel_rfl) (by kernel_rfl) (fun _ _ _ h => h) (Or.inl ⟨by rfl, ?_⟩) (trivial) ?_
        rotate_left
        · intro w hSw
          try dsimp only at hSw
          go_simp
          try with_reducible rfl
        try simp only [Act.put, List.setIfInBounds_toArray, List.set_cons_zero, List.set_cons_succ]
        refine wpAnyH_take (i := 13) (oi := ({ dst := some 79, op := Op.call { callee := Callee.builtin Builtin.max, args := #[Operand.tmp 78, Operand.const (Value.int IntKind.i64 0)], argTypes := #[3, 3] }, type := 3, pos := _, after := #[{ on := 12, ground := Ground.data }, { on := 5, ground := Ground.guard }], guard := some (5, false) } : Oper)) (v := ?_) rfl (by kernel_rfl) (by kernel_rfl) (by kernel_rfl) (fun _ _ _ h => h) (Or.inl ⟨by rfl, ?_⟩) (trivial) ?_
        rotate_left
        · intro w hSw
          try dsimp only at hSw
          go_simp
          try with_reducible rfl
        try simp only [Act.put, List.setIfInBounds_toArray, List.set_cons_zero, List.set_cons_succ]
        refine wpAnyH_take (i := 14) (oi := ({ dst := some 80, op := Op.call { callee := Callee.builtin Builtin.min, args := #[Operand.tmp 77, Operand.tmp 79], argTypes := #[3, 3] }, type := 3, pos := _, after := #[{ on := 11, ground := Ground.data }, { on := 13, ground := Ground.data }, { on := 5, ground := Ground.guard }], guard := some (5, false) } : Oper)) (v := ?_) rfl (by kernel_rfl) (by kernel_rfl) (by kernel_rfl) (fun _ _ _ h => h) (Or.inl ⟨by rfl, ?_⟩) (trivial) ?_
        rotate_left
        · intro w hSw
          try dsimp only at hSw
          go_simp
          try with_reducible rfl
        try simp only [Act.put, List.setIfInBounds_toArray, List.set_cons_zero, List.set_cons_succ]
        refine wpAnyH_take (i := 15) (oi := ({ dst := some 81, op := Op.slice 22 (Operand.tmp 75) none (some (Operand.tmp 80)) none, type := 22, pos := _, after := #[{ on := 9, ground := Ground.data }, { on := 14, ground := Ground.data }, { on := 5, ground := Ground.guard }], guard := some (5, false) } : Oper)) (v := ?_) rfl (by kernel_rfl) (by kernel_rfl) (by kernel_rfl) (fun _ _ _ h => h) (Or.inl ⟨by rfl, ?_⟩) (trivial) ?_
        rotate_left
        · intro w hSw
          try dsimp only at hSw
          go_simp
          try with_reducible rfl
        try simp only [Act.put, List.setIfInBounds_toArray, List.set_cons_zero, List.set_cons_succ]
        refine wpAnyH_ready (rs := [8]) (by kernel_rfl) (by simp) ?_
        refine AllReadyH.cons (o := ({ dst := some 74, op := Op.call { callee := Callee.value (Operand.func 13), args := #[Operand.tmp 72, Operand.tmp 73], argTypes := #[24, 3] }, type := 22, pos := _, after := #[{ on := 6, ground := Ground.data }, { on := 7, ground := Ground.data }, { on := 5, ground := Ground.chain }, { on := 5, ground := Ground.guard }], guard := some (5, false) } : Oper)) rfl (fun K hK => ?_) AllReadyH.nil
        go_simp
        go_at_call 13
        (with_reducible refine (nl_rg (w9 := wr) (M := m) (by (repeat (first | with_reducible exact Below.refl _ _ | with_reducible assumption | with_reducible refine keepB_drew ?_ | with_reducible refine keepB_drewN ?_ _ | with_reducible refine keepB_alloc ?_ _)))).mono ?_)
        rintro e w12 ⟨rfl, hb12⟩
        refine hK.out _ _ (trivial) (fun _ => ?_)
        clear hK K
        try simp only [Act.put, List.setIfInBounds_toArray, List.set_cons_zero, List.set_cons_succ]
        refine wpAnyH_ready (rs := [16]) (by kernel_rfl) (by simp) ?_
        refine AllReadyH.cons (o := ({ dst := some 82, op := Op.call { callee := Callee.value (Operand.func 12), args := #[Operand.tmp 74, Operand.tmp 81], argTypes := #[22, 22] }, type := 4, pos := _, after := #[{ on := 8, ground := Ground.data }, { on := 15, ground := Ground.data }, { on := 8, ground := Ground.chain }, { on := 5, ground := Ground.guard }], guard := some (5, false) } : Oper)) rfl (fun K hK => ?_) AllReadyH.nil
        go_simp
        go_at_call 12
        (with_reducible refine (nl_same (w9 := wr) (by (repeat (first | with_reducible exact Below.refl _ _ | with_reducible assumption | with_reducible refine keepB_drew ?_ | with_reducible refine keepB_drewN ?_ _ | with_reducible refine keepB_alloc ?_ _)))).mono ?_)
        rintro e w216 ⟨rfl, hb216⟩
        refine hK.out _ _ (trivial) (fun _ => ?_)
        clear hK K
        try simp only [Act.put, List.setIfInBounds_toArray, List.set_cons_zero, List.set_cons_succ]
        refine wpAnyH_take (i := 17) (oi := ({ dst := some 83, op := Op.unOp UnOp.not 4 (Operand.tmp 82), type := 4, pos := _, after := #[{ on := 16, ground := Ground.data }, { on := 5, ground := Ground.guard }], guard := some (5, false) } : Oper)) (v := ?_) rfl (by kernel_rfl) (by kernel_rfl) (by kernel_rfl) (fun _ _ _ h => h) (Or.inl ⟨by rfl, ?_⟩) (trivial) ?_
        rotate_left
        · intro w hSw
          try dsimp only at hSw
          go_simp
          try with_reducible rfl
        try simp only [Act.put, List.setIfInBounds_toArray, List.set_cons_zero, List.set_cons_succ]
        refine wpAnyH_take (i := 18) (oi := ({ dst := some 84, op := Op.pick (Operand.tmp 71) (Operand.const (Value.bool true)) (Operand.tmp 83), type := 4, pos := _, after := #[{ on := 5, ground := Ground.data }, { on := 17, ground := Ground.data }], guard := none } : Oper)) (v := ?_) rfl (by kernel_rfl) (by kernel_rfl) (by kernel_rfl) (fun _ _ _ h => h) (Or.inl ⟨by rfl, ?_⟩) (trivial) ?_
        rotate_left
        · intro w hSw
          try dsimp only at hSw
          go_simp
          try with_reducible rfl
        try simp only [Act.put, List.setIfInBounds_toArray, List.set_cons_zero, List.set_cons_succ]
        refine wpAnyH_take (i := 19) (oi := ({ dst := some 85, op := Op.move (Operand.tmp 84), type := 4, pos := _, after := #[{ on := 18, ground := Ground.data }, { on := 16, ground := Ground.chain }], guard := none } : Oper)) (v := ?_) rfl (by kernel_rfl) (by kernel_rfl) (by kernel_rfl) (fun _ _ _ h => h) (Or.inl ⟨by rfl, ?_⟩) (trivial) ?_
        rotate_left
        · intro w hSw
          try dsimp only at hSw
          go_simp
          try with_reducible rfl
        try simp only [Act.put, List.setIfInBounds_toArray, List.set_cons_zero, List.set_cons_succ]
        refine wpAnyH_take (i := 20) (oi := ({ dst := some 86, op := Op.move (Operand.tmp 9), type := 24, pos := _, after := #[{ on := 19, ground := Ground.guard }], guard := some (19, false) } : Oper)) (v := ?_) rfl (by kernel_rfl) (by kernel_rfl) (by kernel_rfl) (fun _ _ _ h => h) (Or.inl ⟨by rfl, ?_⟩) (trivial) ?_
        rotate_left
        · intro w hSw
          try dsimp only at hSw
          go_simp
          try with_reducible rfl
        try simp only [Act.put, List.setIfInBounds_toArray, List.set_cons_zero, List.set_cons_succ]
        refine wpAnyH_take (i := 22) (oi := ({ dst := some 88, op := Op.move (Operand.tmp 13), type := 22, pos := _, after := #[{ on := 19, ground := Ground.guard }], guard := some (19, false) } : Oper)) (v := ?_) rfl (by kernel_rfl) (by kernel_rfl) (by kernel_rfl) (fun _ _ _ h => h) (Or.inl ⟨by rfl, ?_⟩) (trivial) ?_
        rotate_left
        · intro w hSw
          try dsimp only at hSw
          go_simp
          try with_reducible rfl
        try simp only [Act.put, List.setIfInBounds_toArray, List.set_cons_zero, List.set_cons_succ]
        refine wpAnyH_take (i := 23) (oi := ({ dst := some 89, op := Op.call { callee := Callee.builtin Builtin.len, args := #[Operand.tmp 88], argTypes := #[22] }, type := 3, pos := _, after := #[{ on := 22, ground := Ground.data }, { on := 19, ground := Ground.guard }], guard := some (19, false) } : Oper)) (v := ?_) rfl (by kernel_rfl) (by kernel_rfl) (by kernel_rfl) (fun _ _ _ h => h) (Or.inl ⟨by rfl, ?_⟩) (trivial) ?_
        rotate_left
        · intro w hSw
          try dsimp only at hSw
          go_simp
          try with_reducible rfl
        try simp only [Act.put, List.setIfInBounds_toArray, List.set_cons_zero, List.set_cons_succ]
        refine wpAnyH_ready (rs := [21]) (by kernel_rfl) (by simp) ?_
        refine AllReadyH.cons (o := ({ dst := some 87, op := Op.call { callee := Callee.value (Operand.func 18), args := #[Operand.tmp 86], argTypes := #[24] }, type := 3, pos := _, after := #[{ on := 20, ground := Ground.data }, { on := 19, ground := Ground.chain }, { on := 19, ground := Ground.guard }], guard := some (19, false) } : Oper)) rfl (fun K hK => ?_) AllReadyH.nil
        go_simp
        go_at_call 18
        (with_reducible refine (nl_len (w9 := wr) (by (repeat (first | with_reducible exact Below.refl _ _ | with_reducible assumption | with_reducible refine keepB_drew ?_ | with_reducible refine keepB_drewN ?_ _ | with_reducible refine keepB_alloc ?_ _)))).mono ?_)
        rintro e w221 ⟨rfl, hb221⟩
        refine hK.out _ _ (trivial) (fun _ => ?_)
        clear hK K
        try simp only [Act.put, List.setIfInBounds_toArray, List.set_cons_zero, List.set_cons_succ]
        refine wpAnyH_take (i := 24) (oi := ({ dst := some 90, op := Op.binOp BinOp.neq 3 (Operand.tmp 87) (Operand.tmp 89) 3, type := 4, pos := _, after := #[{ on := 21, ground := Ground.data }, { on := 23, ground := Ground.data }, { on := 19, ground := Ground.guard }], guard := some (19, false) } : Oper)) (v := ?_) rfl (by kernel_rfl) (by kernel_rfl) (by kernel_rfl) (fun _ _ _ h => h) (Or.inl ⟨by rfl, ?_⟩) (trivial) ?_
        rotate_left
        · intro w hSw
          try dsimp only at hSw
          go_simp
          try with_reducible rfl
        try simp only [Act.put, List.setIfInBounds_toArray, List.set_cons_zero, List.set_cons_succ]
        refine wpAnyH_take (i := 25) (oi := ({ dst := some 91, op := Op.pick (Operand.tmp 85) (Operand.const (Value.bool true)) (Operand.tmp 90), type := 4, pos := _, after := #[{ on := 19, ground := Ground.data }, { on := 24, ground := Ground.data }], guard := none } : Oper)) (v := ?_) rfl (by kernel_rfl) (by kernel_rfl) (by kernel_rfl) (fun _ _ _ h => h) (Or.inl ⟨by rfl, ?_⟩) (trivial) ?_
        rotate_left
        · intro w hSw
          try dsimp only at hSw
          go_simp
          try with_reducible rfl
        try simp only [Act.put, List.setIfInBounds_toArray, List.set_cons_zero, List.set_cons_succ]
        refine wpAnyH_take (i := 26) (oi := ({ dst := some 92, op := Op.move (Operand.tmp 91), type := 4, pos := _, after := #[{ on := 25, ground := Ground.data }, { on := 21, ground := Ground.chain }], guard := none } : Oper)) (v := ?_) rfl (by kernel_rfl) (by kernel_rfl) (by kernel_rfl) (fun _ _ _ h => h) (Or.inl ⟨by rfl, ?_⟩) (trivial) ?_
        rotate_left
        · intro w hSw
          try dsimp only at hSw
          go_simp
          try with_reducible rfl
        try simp only [Act.put, List.setIfInBounds_toArray, List.set_cons_zero, List.set_cons_succ]
        refine wpAnyH_take (i := 27) (oi := ({ dst := some 93, op := Op.move (Operand.tmp 9), type := 24, pos := _, after := #[{ on := 26, ground := Ground.guard }], guard := some (26, false) } : Oper)) (v := ?_) rfl (by kernel_rfl) (by kernel_rfl) (by kernel_rfl) (fun _ _ _ h => h) (Or.inl ⟨by rfl, ?_⟩) (trivial) ?_
        rotate_left
        · intro w hSw
          try dsimp only at hSw
          go_simp
          try with_reducible rfl
        try simp only [Act.put, List.setIfInBounds_toArray, List.set_cons_zero, List.set_cons_succ]
        refine wpAnyH_take (i := 29) (oi := ({ dst := some 95, op := Op.move (Operand.tmp 14), type := 28, pos := _, after := #[{ on := 26, ground := Ground.guard }], guard := some (26, false) } : Oper)) (v := ?_) rfl (by kernel_rfl) (by kernel_rfl) (by kernel_rfl) (fun _ _ _ h => h) (Or.inl ⟨by rfl, ?_⟩) (trivial) ?_
        rotate_left
        · intro w hSw
          try dsimp only at hSw
          go_simp
          try with_reducible rfl
        try simp only [Act.put, List.setIfInBounds_toArray, List.set_cons_zero, List.set_cons_succ]
        refine wpAnyH_ready (rs := [28]) (by kernel_rfl) (by simp) ?_
        refine AllReadyH.cons (o := ({ dst := some 94, op := Op.call { callee := Callee.value (Operand.func 21), args := #[Operand.tmp 93], argTypes := #[24] }, type := 28, pos := _, after := #[{ on := 27, ground := Ground.data }, { on := 26, ground := Ground.chain }, { on := 26, ground := Ground.guard }], guard := some (26, false) } : Oper)) rfl (fun K hK => ?_) AllReadyH.nil
        go_simp
        go_at_call 21
        (with_reducible refine (nl_cnt (w9 := wr) (by (repeat (first | with_reducible exact Below.refl _ _ | with_reducible assumption | with_reducible refine keepB_drew ?_ | with_reducible refine keepB_drewN ?_ _ | with_reducible refine keepB_alloc ?_ _)))).mono ?_)
        rintro e w228 ⟨rfl, hb228⟩
        refine hK.out _ _ (trivial) (fun _ => ?_)
        clear hK K
        try simp only [Act.put, List.setIfInBounds_toArray, List.set_cons_zero, List.set_cons_succ]
        refine wpAnyH_take (i := 30) (oi := ({ dst := some 96, op := Op.binOp BinOp.neq 28 (Operand.tmp 94) (Operand.tmp 95) 28, type := 4, pos := _, after := #[{ on := 28, ground := Ground.data }, { on := 29, ground := Ground.data }, { on := 26, ground := Ground.guard }], guard := some (26, false) } : Oper)) (v := ?_) rfl (by kernel_rfl) (by kernel_rfl) (by kernel_rfl) (fun _ _ _ h => h) (Or.inl ⟨by rfl, ?_⟩) (trivial) ?_
        rotate_left
        · intro w hSw
          try dsimp only at hSw
          go_simp
          try with_reducible rfl
        try simp only [Act.put, List.setIfInBounds_toArray, List.set_cons_zero, List.set_cons_succ]
        refine wpAnyH_take (i := 31) (oi := ({ dst := some 97, op := Op.pick (Operand.tmp 92) (Operand.const (Value.bool true)) (Operand.tmp 96), type := 4, pos := _, after := #[{ on := 26, ground := Ground.data }, { on := 30, ground := Ground.data }], guard := none } : Oper)) (v := ?_) rfl (by kernel_rfl) (by kernel_rfl) (by kernel_rfl) (fun _ _ _ h => h) (Or.inl ⟨by rfl, ?_⟩) (trivial) ?_
        rotate_left
        · intro w hSw
          try dsimp only at hSw
          go_simp
          try with_reducible rfl
        try simp only [Act.put, List.setIfInBounds_toArray, List.set_cons_zero, List.set_cons_succ]
        refine wpAnyH_take (i := 32) (oi := ({ dst := some 98, op := Op.move (Operand.tmp 97), type := 4, pos := _, after := #[{ on := 31, ground := Ground.data }, { on := 28, ground := Ground.chain }], guard := none } : Oper)) (v := ?_) rfl (by kernel_rfl) (by kernel_rfl) (by kernel_rfl) (fun _ _ _ h => h) (Or.inl ⟨by rfl, ?_⟩) (trivial) ?_
        rotate_left
        · intro w hSw
          try dsimp only at hSw
          go_simp
          try with_reducible rfl
        try simp only [Act.put, List.setIfInBounds_toArray, List.set_cons_zero, List.set_cons_succ]
        refine wpAnyH_take (i := 33) (oi := ({ dst := some 99, op := Op.move (Operand.tmp 18), type := 4, pos := _, after := #[{ on := 32, ground := Ground.guard }], guard := some (32, false) } : Oper)) (v := ?_) rfl (by kernel_rfl) (by kernel_rfl) (by kernel_rfl) (fun _ _ _ h => h) (Or.inl ⟨by rfl, ?_⟩) (trivial) ?_
        rotate_left
        · intro w hSw
          try dsimp only at hSw
          go_simp
          try with_reducible rfl
        try simp only [Act.put, List.setIfInBounds_toArray, List.set_cons_zero, List.set_cons_succ]
        refine wpAnyH_take (i := 34) (oi := ({ dst := some 100, op := Op.move (Operand.tmp 13), type := 22, pos := _, after := #[{ on := 32, ground := Ground.guard }], guard := some (32, false) } : Oper)) (v := ?_) rfl (by kernel_rfl) (by kernel_rfl) (by kernel_rfl) (fun _ _ _ h => h) (Or.inl ⟨by rfl, ?_⟩) (trivial) ?_
        rotate_left
        · intro w hSw
          try dsimp only at hSw
          go_simp
          try with_reducible rfl
        try simp only [Act.put, List.setIfInBounds_toArray, List.set_cons_zero, List.set_cons_succ]
        refine wpAnyH_take (i := 35) (oi := ({ dst := some 101, op := Op.call { callee := Callee.builtin Builtin.len, args := #[Operand.tmp 100], argTypes := #[22] }, type := 3, pos := _, after := #[{ on := 34, ground := Ground.data }, { on := 32, ground := Ground.guard }], guard := some (32, false) } : Oper)) (v := ?_) rfl (by kernel_rfl) (by kernel_rfl) (by kernel_rfl) (fun _ _ _ h => h) (Or.inl ⟨by rfl, ?_⟩) (trivial) ?_
        rotate_left
        · intro w hSw
          try dsimp only at hSw
          go_simp
          try with_reducible rfl
        try simp only [Act.put, List.setIfInBounds_toArray, List.set_cons_zero, List.set_cons_succ]
        refine wpAnyH_take (i := 36) (oi := ({ dst := some 102, op := Op.binOp BinOp.gtr 3 (Operand.tmp 101) (Operand.const (Value.int IntKind.i64 0)) 3, type := 4, pos := _, after := #[{ on := 35, ground := Ground.data }, { on := 32, ground := Ground.guard }], guard := some (32, false) } : Oper)) (v := ?_) rfl (by kernel_rfl) (by kernel_rfl) (by kernel_rfl) (fun _ _ _ h => h) (Or.inl ⟨by rfl, ?_⟩) (trivial) ?_
        rotate_left
        · intro w hSw
          try dsimp only at hSw
          go_simp
          try with_reducible rfl
        try simp only [Act.put, List.setIfInBounds_toArray, List.set_cons_zero, List.set_cons_succ]
        refine wpAnyH_take (i := 37) (oi := ({ dst := some 103, op := Op.binOp BinOp.neq 4 (Operand.tmp 99) (Operand.tmp 102) 4, type := 4, pos := _, after := #[{ on := 33, ground := Ground.data }, { on := 36, ground := Ground.data }, { on := 32, ground := Ground.guard }], guard := some (32, false) } : Oper)) (v := ?_) rfl (by kernel_rfl) (by kernel_rfl) (by kernel_rfl) (fun _ _ _ h => h) (Or.inl ⟨by rfl, ?_⟩) (trivial) ?_
        rotate_left
        · intro w hSw
          try dsimp only at hSw
          go_simp
          try with_reducible rfl
        try simp only [Act.put, List.setIfInBounds_toArray, List.set_cons_zero, List.set_cons_succ]
        refine wpAnyH_take (i := 38) (oi := ({ dst := some 104, op := Op.pick (Operand.tmp 98) (Operand.const (Value.bool true)) (Operand.tmp 103), type := 4, pos := _, after := #[{ on := 32, ground := Ground.data }, { on := 37, ground := Ground.data }], guard := none } : Oper)) (v := ?_) rfl (by kernel_rfl) (by kernel_rfl) (by kernel_rfl) (fun _ _ _ h => h) (Or.inl ⟨by rfl, ?_⟩) (trivial) ?_
        rotate_left
        · intro w hSw
          try dsimp only at hSw
          go_simp
          try with_reducible rfl
        try simp only [Act.put, List.setIfInBounds_toArray, List.set_cons_zero, List.set_cons_succ]
        refine wpAnyH_take (i := 39) (oi := ({ dst := some 105, op := Op.move (Operand.tmp 104), type := 4, pos := _, after := #[{ on := 38, ground := Ground.data }, { on := 32, ground := Ground.chain }], guard := none } : Oper)) (v := ?_) rfl (by kernel_rfl) (by kernel_rfl) (by kernel_rfl) (fun _ _ _ h => h) (Or.inl ⟨by rfl, ?_⟩) (trivial) ?_
        rotate_left
        · intro w hSw
          try dsimp only at hSw
          go_simp
          try with_reducible rfl
        try simp only [Act.put, List.setIfInBounds_toArray, List.set_cons_zero, List.set_cons_succ]
        refine wpAnyH_take (i := 40) (oi := ({ dst := some 106, op := Op.move (Operand.tmp 18), type := 4, pos := _, after := #[{ on := 39, ground := Ground.guard }], guard := some (39, false) } : Oper)) (v := ?_) rfl (by kernel_rfl) (by kernel_rfl) (by kernel_rfl) (fun _ _ _ h => h) (Or.inl ⟨by rfl, ?_⟩) (trivial) ?_
        rotate_left
        · intro w hSw
          try dsimp only at hSw
          go_simp
          try with_reducible rfl
        try simp only [Act.put, List.setIfInBounds_toArray, List.set_cons_zero, List.set_cons_succ]
        refine wpAnyH_take (i := 41) (oi := ({ dst := some 107, op := Op.move (Operand.tmp 106), type := 4, pos := _, after := #[{ on := 40, ground := Ground.data }, { on := 39, ground := Ground.chain }, { on := 39, ground := Ground.guard }], guard := some (39, false) } : Oper)) (v := ?_) rfl (by kernel_rfl) (by kernel_rfl) (by kernel_rfl) (fun _ _ _ h => h) (Or.inl ⟨by rfl, ?_⟩) (trivial) ?_
        rotate_left
        · intro w hSw
          try dsimp only at hSw
          go_simp
          try with_reducible rfl
        try simp only [Act.put, List.setIfInBounds_toArray, List.set_cons_zero, List.set_cons_succ]
        refine wpAnyH_take (i := 42) (oi := ({ dst := some 108, op := Op.move (Operand.tmp 17), type := 28, pos := _, after := #[{ on := 41, ground := Ground.guard }], guard := some (41, true) } : Oper)) (v := undef) rfl (by kernel_rfl) (by kernel_rfl) (by kernel_rfl) (fun _ _ _ h => h) (Or.inr ⟨by rfl, rfl⟩) (trivial) ?_
        try simp only [Act.put, List.setIfInBounds_toArray, List.set_cons_zero, List.set_cons_succ]
        refine wpAnyH_take (i := 43) (oi := ({ dst := some 109, op := Op.move (Operand.tmp 13), type := 22, pos := _, after := #[{ on := 41, ground := Ground.guard }], guard := some (41, true) } : Oper)) (v := undef) rfl (by kernel_rfl) (by kernel_rfl) (by kernel_rfl) (fun _ _ _ h => h) (Or.inr ⟨by rfl, rfl⟩) (trivial) ?_
        try simp only [Act.put, List.setIfInBounds_toArray, List.set_cons_zero, List.set_cons_succ]
        refine wpAnyH_take (i := 44) (oi := ({ dst := some 110, op := Op.indexAddr 22 (Operand.tmp 109) (Operand.const (Value.int IntKind.i64 0)), type := 0, pos := _, after := #[{ on := 43, ground := Ground.data }, { on := 41, ground := Ground.guard }], guard := some (41, true) } : Oper)) (v := undef) rfl (by kernel_rfl) (by kernel_rfl) (by kernel_rfl) (fun _ _ _ h => h) (Or.inr ⟨by rfl, rfl⟩) (trivial) ?_
        try simp only [Act.put, List.setIfInBounds_toArray, List.set_cons_zero, List.set_cons_succ]
        refine wpAnyH_take (i := 45) (oi := ({ dst := some 111, op := Op.fieldAddr 30 (Operand.tmp 110) 1, type := 0, pos := _, after := #[{ on := 44, ground := Ground.data }, { on := 41, ground := Ground.guard }], guard := some (41, true) } : Oper)) (v := undef) rfl (by kernel_rfl) (by kernel_rfl) (by kernel_rfl) (fun _ _ _ h => h) (Or.inr ⟨by rfl, rfl⟩) (trivial) ?_
        try simp only [Act.put, List.setIfInBounds_toArray, List.set_cons_zero, List.set_cons_succ]
        refine wpAnyH_take (i := 46) (oi := ({ dst := some 112, op := Op.load 28 (Operand.tmp 111), type := 28, pos := _, after := #[{ on := 45, ground := Ground.data }, { on := 41, ground := Ground.guard }], guard := some (41, true) } : Oper)) (v := undef) rfl (by kernel_rfl) (by kernel_rfl) (by kernel_rfl) (fun _ _ _ h => h) (Or.inr ⟨by rfl, rfl⟩) (trivial) ?_
        try simp only [Act.put, List.setIfInBounds_toArray, List.set_cons_zero, List.set_cons_succ]
        refine wpAnyH_take (i := 47) (oi := ({ dst := some 113, op := Op.binOp BinOp.neq 28 (Operand.tmp 108) (Operand.tmp 112) 28, type := 4, pos := _, after := #[{ on := 42, ground := Ground.data }, { on := 46, ground := Ground.data }, { on := 41, ground := Ground.guard }], guard := some (41, true) } : Oper)) (v := undef) rfl (by kernel_rfl) (by kernel_rfl) (by kernel_rfl) (fun _ _ _ h => h) (Or.inr ⟨by rfl, rfl⟩) (trivial) ?_
        try simp only [Act.put, List.setIfInBounds_toArray, List.set_cons_zero, List.set_cons_succ]
        refine wpAnyH_take (i := 48) (oi := ({ dst := some 114, op := Op.pick (Operand.tmp 107) (Operand.tmp 113) (Operand.const (Value.bool false)), type := 4, pos := _, after := #[{ on := 41, ground := Ground.data }, { on := 47, ground := Ground.data }, { on := 39, ground := Ground.guard }], guard := some (39, false) } : Oper)) (v := ?_) rfl (by kernel_rfl) (by kernel_rfl) (by kernel_rfl) (fun _ _ _ h => h) (Or.inl ⟨by rfl, ?_⟩) (trivial) ?_
        rotate_left
        · intro w hSw
          try dsimp only at hSw
          go_simp
          try with_reducible rfl
        try simp only [Act.put, List.setIfInBounds_toArray, List.set_cons_zero, List.set_cons_succ]
        refine wpAnyH_take (i := 49) (oi := ({ dst := some 115, op := Op.pick (Operand.tmp 105) (Operand.const (Value.bool true)) (Operand.tmp 114), type := 4, pos := _, after := #[{ on := 39, ground := Ground.data }, { on := 48, ground := Ground.data }], guard := none } : Oper)) (v := ?_) rfl (by kernel_rfl) (by kernel_rfl) (by kernel_rfl) (fun _ _ _ h => h) (Or.inl ⟨by rfl, ?_⟩) (trivial) ?_
        rotate_left
        · intro w hSw
          try dsimp only at hSw
          go_simp
          try with_reducible rfl
        try simp only [Act.put, List.setIfInBounds_toArray, List.set_cons_zero, List.set_cons_succ]
        refine wpAnyH_done (by kernel_rfl) ?_ _
        go_wp2_with fail
        refine wp_world (fun wz => Below wr.heap.size wr wz) (by (repeat (first | with_reducible exact Below.refl _ _ | with_reducible assumption | with_reducible refine keepB_drew ?_ | with_reducible refine keepB_drewN ?_ _ | with_reducible refine keepB_alloc ?_ _))) ?_
        rintro wz hbz
        have hB9 := hB.trans (hbz.mono hB.size)
        clear hB hbz hmx hmn hmn3
        go_loopw [118] (fun sc wr => ∃ (j : Nat), j ≤ q ∧ sc = .int .i64 j ∧ wr = wz) (fun sc _ => q - (intOf sc).toNat)
        case atStart => exact ⟨0, Nat.zero_le _, rfl, rfl⟩
        case round =>
          obtain ⟨j, hjn, rfl, rfl⟩ := hrel
          by_cases hj : j < q
          · obtain ⟨b3, off3, rfl, hbb3, c3⟩ := (HV.out.below hB9).at_ j (by rw [← HNL.out]; exact hj)
            obtain ⟨x, hx⟩ : ∃ x, x = l.getD j 0 := ⟨_, rfl⟩
            rw [← hx] at c3
            clear hx
            by_cases hj20 : j < 20
            · have hj20' : (j : Int) < 20 := by omega
              go_wp2_with fail
              (with_reducible refine (has_nil x _).mono ?_)
              rintro e w11 ⟨rfl, rfl⟩
              go_wp2_with fail
              (with_reducible refine (hasR_nil x _).mono ?_)
              rintro e w12 ⟨rfl, rfl⟩
              go_wp2_with fail
              (with_reducible refine (hole_nil x _).mono ?_)
              rintro e w13 ⟨rfl, rfl⟩
              go_wp2_with fail
              (with_reducible refine (holeR_nil x _).mono ?_)
              rintro e w14 ⟨rfl, rfl⟩
              go_wp2_with fail
              go_roundw
              case rel => first | exact ⟨j + 1, by omega, by go_num, rfl⟩ | exact ⟨j + 1, by omega, by go_num, trivial⟩
              case measure => simp [intOf]; omega
            · have hj20' : decide ((j : Int) < 20) = false := by simp; omega
              go_wp2_with fail
              go_roundw
              case rel => first | exact ⟨j + 1, by omega, by go_num, rfl⟩ | exact ⟨j + 1, by omega, by go_num, trivial⟩
              case measure => simp [intOf]; omega
          · go_wp2_with fail
            go_ret
            exact ⟨rfl, hB9⟩
theorem plays_walk (b : Bool) (A : Option Addr) (N cap : Nat) (d f t : Nat → Int) (m : Int) (v : Value) (l : List Int) (w : World) (hS : Scr w A N d f t) (hN0 : N ≤ 9223372036854775807) (hm : -9223372036854775808 ≤ m ∧ m ≤ 9223372036854775807) (hv : Rd w .u64 v l) (hl : ∀ x ∈ l, 0 ≤ x ∧ x ≤ 18446744073709551615) :
    Calls Try.prog 8 #[.bool b, .slice A N cap, .int .i64 m, v] w fun e w' => e = .returned (.bool true) ∧ Below w.heap.size w w' := by
  cases b
  · exact plays_sets A N cap d f t m v l w hS hN0 hm hv hl
  · exact plays_none A N cap d f t m v l w hS hN0 hm hv hl
open Go.ChangeShapes Go.WideShapes Go.ChangeAt
set_option maxRecDepth 100000 in
theorem plays_lifted (os : Os) (started : os.Started) (H : Type) (enc : TypeId × Value → H) :
    ReturnsInHanded {} Try.checked os 8 .any (Rows.spanPlaysSpec.pre6 enc Try.prog Try.f8 Rows.spanPlaysRow.domain false) (Rows.spanPlaysSpec.post enc Try.prog Try.f8 false true false false) := by
  refine returnsInHanded_of_change (C := Try.checked) own started (by kernel_rfl) Try.func8
    (ChangeSpec.witness6 (enc := enc) (C := Try.checked) false ⟨#[], #[.bool false, .slice none 0 0, .int .i64 0, .slice none 0 0], []⟩ 8 (by kernel_rfl) (by kernel_rfl) (by kernel_rfl) (by kernel_rfl)) ?_
  intro W base args ds gs before hval0 hW hcnd _
  have hval : ∀ (j : Nat) t v, Try.f8.params[j]? = some t → args[j]? = some v → Value.okWide Try.prog W .any base t v := hval0
  have hW' := hW
  obtain ⟨p, q, hA0, hV, rfl, hfz, hnd⟩ := hW
  have hA : DataW.TrodAll enc Try.prog W 0 (fun _ => true) true Try.f8.params.toList args.toList ds p := hA0
  rw [Try.params8] at hA hval
  obtain ⟨v0, vs0, d0, ds0, p0, q0, hargs, rfl, rfl, h0, r0⟩ := trodAll_cons hA
  obtain ⟨v1, vs1, d1, ds1, p1, q1, rfl, rfl, rfl, h1, r1⟩ := trodAll_cons r0
  obtain ⟨v2, vs2, d2, ds2, p2, q2, rfl, rfl, rfl, h2, r2⟩ := trodAll_cons r1
  obtain ⟨v3, vs3, d3, ds3, p3, q3, rfl, rfl, rfl, h3, r3⟩ := trodAll_cons r2
  obtain ⟨rfl, rfl, rfl⟩ := trodAll_nil r3
  obtain rfl : args = #[v0, v1, v2, v3] := by cases args; simp_all
  obtain ⟨rfl, rfl⟩ := trodVars_none hV
  obtain ⟨a0, rfl, rfl, rfl⟩ := open_bool Try.underlying4 (hval 0 4 v0 rfl rfl) h0
  obtain ⟨A1, len1, cap1, rfl⟩ := okWide_slice Try.underlying34 (hval 1 34 v1 rfl rfl)
  have k1 := h1
  have lt1 : ∀ x ∈ p1, x.block < W.heap.size := by obtain ⟨m, hm⟩ := k1; exact DataW.trod_lt m _ _ _ hm
  obtain ⟨n1, d1', f1, t1, hR1⟩ := scr_of k1
  obtain ⟨a2, rfl, rfl, rfl, w2⟩ := open_int Try.underlying3 (hval 2 3 v2 rfl rfl) h2
  obtain ⟨A3, len3, cap3, rfl⟩ := okWide_slice Try.underlying49 (hval 3 49 v3 rfl rfl)
  have k3 := h3
  have lt3 : ∀ x ∈ p3, x.block < W.heap.size := by obtain ⟨m, hm⟩ := k3; exact DataW.trod_lt m _ _ _ hm
  obtain ⟨l3, hR3, hK3⟩ := nums_of k3
  clear hA0 hval0
  refine (plays_walk _ _ _ _ _ _ _ _ _ _ W hR1 n1 (bounds_i64 w2) hR3 hK3).mono fun e W' ⟨he, bel⟩ => ?_
  subst he
  exact ⟨_, rfl, _, _, _, [], _, [], hW', trodAll_mk1 (shut_bool Try.underlying4 _), (trodAll_cons_mk (shut_bool Try.underlying4 _) (trodAll_cons_mk (Below.trod laidOut (by kernel_rfl) (of_decide_eq_true (by kernel_rfl)) k1 bel lt1) (trodAll_cons_mk (shut_int Try.underlying3 w2) (trodAll_cons_mk (Below.trod laidOut (by kernel_rfl) (of_decide_eq_true (by kernel_rfl)) k3 bel lt3) trodAll_mk0)))), rfl, bel.frame _, fun h => by cases h⟩

theorem plays_holds : Rows.SpanPlaysSaid :=
  OpenClaim.holds_of_wide 8 Try.f8 rfl rfl rfl rfl rfl rfl rfl ⟨rfl, rfl, rfl, rfl, rfl⟩ rfl rfl rfl rfl rfl (by kernel_rfl) Try.func8 (by kernel_rfl)
    (of_decide_eq_true (by kernel_rfl)) (by unfold Func.isWrapper; first | (rw [if_pos (by decide +kernel)]; kernel_rfl) | (rw [if_neg (by decide +kernel)]; exact ⟨rfl, rfl⟩))
    (fun os started H enc _ => plays_lifted os started H enc)
#print axioms plays_holds

end Go.Proofs.Ytcmkegkljappfaa
