/-
  Adding to a set; a set of ranges. No condition.
-/
import Derived.Test.YtcmkegkljappfaaSrep
namespace Go.Proofs.Ytcmkegkljappfaa
open Go.RowKit
set_option linter.unusedVariables false
set_option linter.unusedSimpArgs false


/-- All but the set's two blocks stay. -/
structure Only (w w' : World) (g : Nat) (rb : Option Nat) : Prop where
  os : w'.os = w.os
  tape : w'.tape = w.tape
  output : w'.output = w.output
  size : w.heap.size ≤ w'.heap.size
  block : ∀ k, k < w.heap.size → k ≠ g → some k ≠ rb → w'.heap[k]? = w.heap[k]?
/-- A set in memory, and where its ranges lie. -/
def SetR (B : Nat) (w : World) (g : Nat) (rb : Option Nat) (L : List (Int × Int)) : Prop := B ≤ g ∧ ∃ V, V.ownBlock = rb ∧ Blk w g 58 #[V] ∧ w.ownsRow B 30 2 V L.length (pcs L)
section
variable {B B' : Nat} {w w' w'' : World} {g g' : Nat} {rb rb' : Option Nat} {L L' : List (Int × Int)}
theorem SetR.p (h : SetR B w g rb L) : SetP B w g L := by obtain ⟨h0, V, _, h1, h2⟩ := h; exact ⟨h0, V, h1, h2⟩
theorem SetR.below (h : SetR B w g rb L) (hb : Below w.heap.size w w') : SetR B w' g rb L := by
  obtain ⟨h0, V, hr, h1, h2⟩ := h
  exact ⟨h0, V, hr, h1.same hb, own_same h2 hb⟩
theorem SetR.base (h : SetR B w g rb L) (hB : B' ≤ B) : SetR B' w g rb L := by
  obtain ⟨h0, V, hr, h1, h2⟩ := h
  exact ⟨Nat.le_trans hB h0, V, hr, h1, own_base h2 hB⟩
theorem SetR.drewN (h : SetR B w g rb L) (n : Nat) : SetR B (w.drewN n) g rb L := h
theorem SetR.drew (h : SetR B w g rb L) : SetR B w.drew g rb L := h
theorem SetR.lt (h : SetR B w g rb L) : g < w.heap.size := h.p.lt
theorem SetR.rlt (h : SetR B w g rb L) : ∀ b, rb = some b → B ≤ b ∧ b < w.heap.size ∧ b ≠ g := by
  obtain ⟨h0, V, hr, h1, h2⟩ := h
  intro b hb
  have hne := own_blk_ne h2 h1 (by decide)
  obtain ⟨h3, h4⟩ := h2.lt b (by rw [hr, hb])
  exact ⟨h3, h4, fun e => hne (by rw [hr, hb, e])⟩
theorem Only.refl (w : World) (g : Nat) (rb : Option Nat) : Only w w g rb := ⟨rfl, rfl, rfl, Nat.le_refl _, fun _ _ _ _ => rfl⟩
theorem Only.of_below (h : Below w.heap.size w w') : Only w w' g rb := ⟨h.os, h.tape, h.output, h.size, fun k hk _ _ => h.block k hk⟩
/-- One step behind another: the second may touch what the first has made. -/
theorem Only.trans (h : Only w w' g rb) (k : Only w' w'' g rb') (hr : rb' = rb ∨ ∃ b, rb' = some b ∧ w.heap.size ≤ b) : Only w w'' g rb :=
  ⟨k.os.trans h.os, k.tape.trans h.tape, k.output.trans h.output, Nat.le_trans h.size k.size, fun i hi h1 h2 => by
    refine (k.block i (Nat.lt_of_lt_of_le hi h.size) h1 ?_).trans (h.block i hi h1 h2)
    rcases hr with rfl | ⟨b, rfl, hb⟩
    · exact h2
    · intro e
      injection e with e
      omega⟩
theorem Only.below (h : Only w w' g rb) (hg : B ≤ g) (hr : ∀ b, rb = some b → B ≤ b) (hB : B ≤ w.heap.size) : Below B w w' :=
  ⟨h.os, h.tape, h.output, h.size, fun k hk => h.block k (Nat.lt_of_lt_of_le hk hB) (by omega) (by rintro e; have := hr k e.symm; omega)⟩
theorem Only.blk {t : TypeId} {cs : Array Value} {b : Nat} (h : Only w w' g rb) (hb : Blk w b t cs) (h1 : b ≠ g) (h2 : some b ≠ rb) : Blk w' b t cs := (h.block b hb.lt h1 h2).trans hb
theorem Only.own {base n sz : Nat} {e : TypeId} {v : Value} {xs : List Value} (h : Only w w' g rb) (ho : w.ownsRow base e sz v n xs) (h1 : v.ownBlock ≠ some g) (h2 : v.ownBlock = none ∨ v.ownBlock ≠ rb) : w'.ownsRow base e sz v n xs := by
  refine ⟨ho.1, ?_⟩
  rcases ho.2 with hh | ⟨gg, cap, cur, rfl, hb, hg, r⟩
  · exact .inl hh
  · refine .inr ⟨gg, cap, cur, rfl, hb, ?_, r⟩
    have hlt : gg < w.heap.size := (Array.getElem?_eq_some_iff.1 hg).1
    refine (h.block gg hlt (by rintro rfl; exact h1 rfl) ?_).trans hg
    rcases h2 with h2 | h2
    · simp [Value.ownBlock] at h2
    · exact fun e => h2 e
theorem Only.fin {X w5 : World} (hb : Below w.heap.size w X) (hg : X.grownBy w5 rb) (u : Value) : Only w (w5.setCell ⟨g, 0, none⟩ u) g rb :=
  ⟨hg.os.trans hb.os, hg.tape.trans hb.tape, hg.output.trans hb.output, Nat.le_trans hb.size (by simpa [World.setCell] using hg.size), fun k hk h1 h2 =>
    (Below.heap_setCell w5 _ u k (by simpa using h1)).trans ((hg.block k (Nat.lt_of_lt_of_le hk hb.size) h2).trans (hb.block k hk))⟩
/-- Another set stays. -/
theorem Only.set {rb2 : Option Nat} {g2 : Nat} (h : Only w w' g rb) (hs : SetR B w g2 rb2 L) (h1 : g2 ≠ g) (h2 : some g2 ≠ rb) (h3 : rb2 ≠ some g) (h4 : rb2 = none ∨ rb2 ≠ rb) : SetR B w' g2 rb2 L := by
  obtain ⟨h0, V, hr, hb, ho⟩ := hs
  exact ⟨h0, V, hr, h.blk hb h1 h2, h.own ho (by rw [hr]; exact h3) (by rw [hr]; exact h4)⟩
end
theorem min_eq {f t a b : Int} (h1 : a < f) (h2 : t < b) {L : List (Int × Int)} : mg (min f a) (max t b) L = mg a b L := by rw [show min f a = a by omega, show max t b = b by omega]
theorem min_eq2 {f t a b : Int} (h1 : a < f) (h2 : ¬ t < b) {L : List (Int × Int)} : mg (min f a) (max t b) L = mg a t L := by rw [show min f a = a by omega, show max t b = t by omega]
theorem min_eq3 {f t a b : Int} (h1 : ¬ a < f) (h2 : t < b) {L : List (Int × Int)} : mg (min f a) (max t b) L = mg f b L := by rw [show min f a = f by omega, show max t b = b by omega]
theorem min_eq4 {f t a b : Int} (h1 : ¬ a < f) (h2 : ¬ t < b) {L : List (Int × Int)} : mg (min f a) (max t b) L = mg f t L := by rw [show min f a = f by omega, show max t b = t by omega]
def adE (f t : Int) : Int := if t < f ∨ MX < t then 1 else 0
theorem mg_step (f t : Int) (L : List (Int × Int)) (k : Nat) (hk : k < L.length) : mg f t (L.drop k) = if (L.getD k (0, 0)).1 ≤ t + 1 then mg (min f (L.getD k (0, 0)).1) (max t (L.getD k (0, 0)).2) (L.drop (k + 1)) else (f, t) :: L.drop k := by
  have e : L.getD k (0, 0) = L[k] := by simp [List.getD, hk]
  rw [e, List.drop_eq_getElem_cons hk, mg]
theorem mg_end (f t : Int) (L : List (Int × Int)) (k : Nat) (hk : L.length ≤ k) : mg f t (L.drop k) = (f, t) :: L.drop k := by
  rw [List.drop_eq_nil_of_le hk, mg]
set_option maxHeartbeats 4000000 in
set_option maxRecDepth 100000 in
theorem add_no (g : Nat) (f t : Int) (w : World) (hE : adE f t ≠ 0) :
    Calls Try.prog 11 #[.pointer (some ⟨g, 0, none⟩), .int .u64 f, .int .u64 t] w fun e w' => e = .returned (.int .i64 (adE f t)) ∧ w = w' := by
  unfold adE at hE ⊢
  by_cases h1 : t < f
  · rw [if_pos (.inl h1)]
    go_enter Try.func11, Try.ntmps11
    go_wp2_with fail
    go_ret
    exact ⟨rfl, rfl⟩
  · by_cases h2 : MX < t
    · rw [if_pos (.inr h2)]
      have h2' : 4611686018427387903 < t := h2
      have h1' : f ≤ t := by omega
      clear hE h2
      go_enter Try.func11, Try.ntmps11
      go_wp2_with fail
      go_ret
      exact ⟨rfl, rfl⟩
    · rw [if_neg (by omega)] at hE
      exact absurd rfl hE
set_option maxHeartbeats 4000000 in
set_option maxRecDepth 100000 in
theorem add_nil (f t : Int) (w : World) :
    Calls Try.prog 11 #[.pointer none, .int .u64 f, .int .u64 t] w fun e w' => e = .returned (.int .i64 6) ∧ w = w' := by
  go_enter Try.func11, Try.ntmps11
  go_wp2_with fail
  go_ret
  exact ⟨rfl, rfl⟩
set_option maxHeartbeats 4000000 in
set_option maxRecDepth 100000 in
theorem add_ok (B g : Nat) (rb : Option Nat) (f t : Int) (L : List (Int × Int)) (w : World) (hs : SetR B w g rb L) (hN : Nm 0 L) (hL : L.length ≤ 1000000) (hBw : B ≤ w.heap.size) (hf : 0 ≤ f) (hft : f ≤ t) (ht : t ≤ MX) :
    Calls Try.prog 11 #[.pointer (some ⟨g, 0, none⟩), .int .u64 f, .int .u64 t] w fun e w' => ∃ rb', e = .returned (.int .i64 0) ∧ SetR B w' g rb' (ad f t L) ∧ Only w w' g rb ∧ (rb' = rb ∨ ∃ b, rb' = some b ∧ w.heap.size ≤ b) := by
  have ht' : t ≤ 4611686018427387903 := ht
  have hpl := pl_le (max f 1 - 1) L
  have had := ad_take hN (Int.le_refl _) f t
  obtain ⟨i, hi⟩ : ∃ i, i = pl (max f 1 - 1) L := ⟨_, rfl⟩
  rw [← hi] at hpl had
  obtain ⟨ff, hff⟩ : ∃ ff, ff = max f 1 - 1 := ⟨_, rfl⟩
  have hplace := fun W (h : SetP B W g L) => place_any B g L 0 ff W h hN (Int.le_refl _)
  rw [hff, ← hi] at hplace
  rw [← hff] at hplace
  have HP := Lib.hid hplace
  have HA := Lib.hid had
  have hfm : (if f < 1 then 1 else f) - 1 = ff := by rw [hff]; split <;> omega
  have hfm2 : (if (1 : Int) < f then f else 1) - 1 = ff := by rw [hff]; split <;> omega
  have hff1 : 0 ≤ ff ∧ ff ≤ 4611686018427387903 := by rw [hff]; omega
  have hff2 : (f < 1 ∧ ff = 0) ∨ (1 ≤ f ∧ ff = f - 1) := by rw [hff]; omega
  have HN := Lib.hid hN
  clear hplace had hi hN ht hff
  have HFM := Lib.hid (And.intro hfm hfm2)
  clear hfm hfm2
  have h1' : ¬ t < f := by omega
  rcases hff2 with ⟨hlt, rfl⟩ | ⟨hge, rfl⟩
  · obtain rfl : f = 0 := by omega
    go_enter Try.func11, Try.ntmps11
    go_wp2_with fail
    (with_reducible refine (HP.out _ hs.p).mono ?_)
    rintro e w2 ⟨rfl, hb2⟩
    have hs2 := hs.below hb2
    go_wp2_with fail
    go_loopw [1, 2, 8] (fun s1 s2 s8 wr => ∃ (f' t' : Int) (k : Nat), s1 = .int .u64 f' ∧ s2 = .int .u64 t' ∧ s8 = .int .i64 k ∧ i ≤ k ∧ k ≤ L.length ∧ Hid (mg 0 t (L.drop i) = mg f' t' (L.drop k)) ∧ 0 ≤ f' ∧ f' ≤ t' ∧ t' ≤ 4611686018427387903 ∧ Below w2.heap.size w2 wr) (fun _ _ s8 _ => L.length - (intOf s8).toNat)
    case atStart => exact ⟨_, t, i, rfl, rfl, rfl, Nat.le_refl _, hpl, Lib.hid rfl, by omega, by omega, by omega, Below.refl _ _⟩
    case round =>
      obtain ⟨f', t', k, rfl, rfl, rfl, hik, hkl, HM, hf0, hf1, ht1, hB⟩ := hrel
      have hs3 := hs2.below hB
      obtain ⟨hBg, V, hV, hblk, hown⟩ := id hs3
      have c0 : wr.cell? ⟨g, 0, none⟩ = some V := hblk.cell 0
      obtain ⟨A, cap, rfl, hnc, hcm, _⟩ := sl_of_own hown
      have hcm' : cap ≤ 9223372036854775807 := by unfold maxLen at hcm; omega
      have hrd := rdp_of_own hown
      have hgl := hblk.lt
      have hne := own_blk_ne hown hblk (by decide)
      have hne0 : rb ≠ some g := hV ▸ hne
      have hw1 : IntKind.u64.wrap (t' + 1) = t' + 1 := Go.IntWalk.u64_in _ (by omega)
      clear hcm
      by_cases hk : k < L.length
      · obtain ⟨bb, off, rfl, hbb, d0, d1⟩ := hrd.get k hk
        have hst := mg_step f' t' L k hk
        rw [← HM.out] at hst
        have hup := HN.out.up k hk
        obtain ⟨x, hx⟩ : ∃ x, x = L.getD k (0, 0) := ⟨_, rfl⟩
        rw [← hx] at d0 d1 hst hup
        clear hx
        obtain ⟨xa, xb⟩ := x
        simp only [MX] at d0 d1 hst hup
        have HST := Lib.hid hst
        clear hst hrd hne HM
        by_cases hc : xa ≤ t' + 1
        · have HST2 := Lib.hid (HST.out.trans (if_pos hc))
          clear HST
          by_cases hm1 : xa < f' <;> by_cases hm2 : t' < xb
          all_goals
            first | have HS3 := Lib.hid (HST2.out.trans (min_eq hm1 hm2)) | have HS3 := Lib.hid (HST2.out.trans (min_eq2 hm1 hm2)) | have HS3 := Lib.hid (HST2.out.trans (min_eq3 hm1 hm2)) | have HS3 := Lib.hid (HST2.out.trans (min_eq4 hm1 hm2))
            clear HST2
            go_wp2_with fail
            go_quiet (fail)
            go_wp2_with fail
            go_roundw
            case rel => exact ⟨_, _, k + 1, rfl, rfl, by go_num, by omega, by omega, HS3, by omega, by omega, by omega, below_drewN hB _⟩
            case measure => simp [intOf]; omega
        · have HST2 := Lib.hid (HST.out.trans (if_neg hc))
          clear HST
          go_wp2_with fail
          have hown1 := hown.alloc (.cells #[.int .u64 f', .int .u64 t'] 30)
          have hsz2 := hb2.size
          have hsz3 := hB.size
          have hnv : ∀ a, a = (Value.slice _ L.length cap).ownBlock → a ≠ some wr.heap.size := fun a ha e => by have := (hown.lt _ (ha.symm.trans e)).2; omega
          refine (rep_any B i k L.length cap wr.heap.size _ f' t' L _ hown1 (by simp; omega) (by omega) (Blk.new wr 30 _) (hnv _ rfl) hik hkl).mono ?_
          rintro e w5 ⟨v', rfl, hown5, hgr5, hat5⟩
          have hblk5 := (hblk.alloc (.cells #[.int .u64 f', .int .u64 t'] 30)).grown hgr5 (fun e => hne0 (hV.symm.trans e.symm))
          have hE : ad 0 t L = L.take i ++ (f', t') :: L.drop k := by rw [← HA.out, HST2.out]
          have hEl : (ad 0 t L).length = i + 1 + (L.length - k) := by rw [hE]; simp; omega
          have hfin := Only.fin (g := g) ((hb2.trans (hB.mono hb2.size)).alloc (by omega) (.cells #[.int .u64 f', .int .u64 t'] 30)) (hV ▸ hgr5)
          obtain ⟨A5, cap5, rfl, _⟩ := sl_of_own hown5
          have c5 : w5.cell? ⟨g, 0, none⟩ = some _ := hblk5.cell 0
          have f5 := hblk5.frozen 0
          have hne5 := own_blk_ne hown5 hblk5 (by decide)
          go_wp2_with fail
          go_ret
          refine ⟨_, rfl, ⟨hBg, _, rfl, by simpa using hblk5.set_ 0 _, ?_⟩, hfin _, ?_⟩
          · rw [hEl, hE]; exact own_far hown5 hne5 _
          · rcases hat5 with h | ⟨b, h, hb⟩
            · exact .inl (h.trans hV)
            · exact .inr ⟨b, h, by simp at hb; omega⟩
      · have HST2 := Lib.hid (HM.out.trans (mg_end f' t' L k (by omega)))
        clear HM
        go_wp2_with fail
        have hown1 := hown.alloc (.cells #[.int .u64 f', .int .u64 t'] 30)
        have hsz2 := hb2.size
        have hsz3 := hB.size
        have hnv : ∀ a, a = (Value.slice _ L.length cap).ownBlock → a ≠ some wr.heap.size := fun a ha e => by have := (hown.lt _ (ha.symm.trans e)).2; omega
        refine (rep_any B i k L.length cap wr.heap.size _ f' t' L _ hown1 (by simp; omega) (by omega) (Blk.new wr 30 _) (hnv _ rfl) hik hkl).mono ?_
        rintro e w5 ⟨v', rfl, hown5, hgr5, hat5⟩
        have hblk5 := (hblk.alloc (.cells #[.int .u64 f', .int .u64 t'] 30)).grown hgr5 (fun e => hne0 (hV.symm.trans e.symm))
        have hE : ad 0 t L = L.take i ++ (f', t') :: L.drop k := by rw [← HA.out, HST2.out]
        have hEl : (ad 0 t L).length = i + 1 + (L.length - k) := by rw [hE]; simp; omega
        have hfin := Only.fin (g := g) ((hb2.trans (hB.mono hb2.size)).alloc (by omega) (.cells #[.int .u64 f', .int .u64 t'] 30)) (hV ▸ hgr5)
        obtain ⟨A5, cap5, rfl, _⟩ := sl_of_own hown5
        have c5 : w5.cell? ⟨g, 0, none⟩ = some _ := hblk5.cell 0
        have f5 := hblk5.frozen 0
        have hne5 := own_blk_ne hown5 hblk5 (by decide)
        go_wp2_with fail
        go_ret
        refine ⟨_, rfl, ⟨hBg, _, rfl, by simpa using hblk5.set_ 0 _, ?_⟩, hfin _, ?_⟩
        · rw [hEl, hE]; exact own_far hown5 hne5 _
        · rcases hat5 with h | ⟨b, h, hb⟩
          · exact .inl (h.trans hV)
          · exact .inr ⟨b, h, by simp at hb; omega⟩
  · go_enter Try.func11, Try.ntmps11
    go_wp2_with fail
    (with_reducible refine (HP.out _ hs.p).mono ?_)
    rintro e w2 ⟨rfl, hb2⟩
    have hs2 := hs.below hb2
    go_wp2_with fail
    go_loopw [1, 2, 8] (fun s1 s2 s8 wr => ∃ (f' t' : Int) (k : Nat), s1 = .int .u64 f' ∧ s2 = .int .u64 t' ∧ s8 = .int .i64 k ∧ i ≤ k ∧ k ≤ L.length ∧ Hid (mg f t (L.drop i) = mg f' t' (L.drop k)) ∧ 0 ≤ f' ∧ f' ≤ t' ∧ t' ≤ 4611686018427387903 ∧ Below w2.heap.size w2 wr) (fun _ _ s8 _ => L.length - (intOf s8).toNat)
    case atStart => exact ⟨_, t, i, rfl, rfl, rfl, Nat.le_refl _, hpl, Lib.hid rfl, by omega, by omega, by omega, Below.refl _ _⟩
    case round =>
      obtain ⟨f', t', k, rfl, rfl, rfl, hik, hkl, HM, hf0, hf1, ht1, hB⟩ := hrel
      have hs3 := hs2.below hB
      obtain ⟨hBg, V, hV, hblk, hown⟩ := id hs3
      have c0 : wr.cell? ⟨g, 0, none⟩ = some V := hblk.cell 0
      obtain ⟨A, cap, rfl, hnc, hcm, _⟩ := sl_of_own hown
      have hcm' : cap ≤ 9223372036854775807 := by unfold maxLen at hcm; omega
      have hrd := rdp_of_own hown
      have hgl := hblk.lt
      have hne := own_blk_ne hown hblk (by decide)
      have hne0 : rb ≠ some g := hV ▸ hne
      have hw1 : IntKind.u64.wrap (t' + 1) = t' + 1 := Go.IntWalk.u64_in _ (by omega)
      clear hcm
      by_cases hk : k < L.length
      · obtain ⟨bb, off, rfl, hbb, d0, d1⟩ := hrd.get k hk
        have hst := mg_step f' t' L k hk
        rw [← HM.out] at hst
        have hup := HN.out.up k hk
        obtain ⟨x, hx⟩ : ∃ x, x = L.getD k (0, 0) := ⟨_, rfl⟩
        rw [← hx] at d0 d1 hst hup
        clear hx
        obtain ⟨xa, xb⟩ := x
        simp only [MX] at d0 d1 hst hup
        have HST := Lib.hid hst
        clear hst hrd hne HM
        by_cases hc : xa ≤ t' + 1
        · have HST2 := Lib.hid (HST.out.trans (if_pos hc))
          clear HST
          by_cases hm1 : xa < f' <;> by_cases hm2 : t' < xb
          all_goals
            first | have HS3 := Lib.hid (HST2.out.trans (min_eq hm1 hm2)) | have HS3 := Lib.hid (HST2.out.trans (min_eq2 hm1 hm2)) | have HS3 := Lib.hid (HST2.out.trans (min_eq3 hm1 hm2)) | have HS3 := Lib.hid (HST2.out.trans (min_eq4 hm1 hm2))
            clear HST2
            go_wp2_with fail
            go_quiet (fail)
            go_wp2_with fail
            go_roundw
            case rel => exact ⟨_, _, k + 1, rfl, rfl, by go_num, by omega, by omega, HS3, by omega, by omega, by omega, below_drewN hB _⟩
            case measure => simp [intOf]; omega
        · have HST2 := Lib.hid (HST.out.trans (if_neg hc))
          clear HST
          go_wp2_with fail
          have hown1 := hown.alloc (.cells #[.int .u64 f', .int .u64 t'] 30)
          have hsz2 := hb2.size
          have hsz3 := hB.size
          have hnv : ∀ a, a = (Value.slice _ L.length cap).ownBlock → a ≠ some wr.heap.size := fun a ha e => by have := (hown.lt _ (ha.symm.trans e)).2; omega
          refine (rep_any B i k L.length cap wr.heap.size _ f' t' L _ hown1 (by simp; omega) (by omega) (Blk.new wr 30 _) (hnv _ rfl) hik hkl).mono ?_
          rintro e w5 ⟨v', rfl, hown5, hgr5, hat5⟩
          have hblk5 := (hblk.alloc (.cells #[.int .u64 f', .int .u64 t'] 30)).grown hgr5 (fun e => hne0 (hV.symm.trans e.symm))
          have hE : ad f t L = L.take i ++ (f', t') :: L.drop k := by rw [← HA.out, HST2.out]
          have hEl : (ad f t L).length = i + 1 + (L.length - k) := by rw [hE]; simp; omega
          have hfin := Only.fin (g := g) ((hb2.trans (hB.mono hb2.size)).alloc (by omega) (.cells #[.int .u64 f', .int .u64 t'] 30)) (hV ▸ hgr5)
          obtain ⟨A5, cap5, rfl, _⟩ := sl_of_own hown5
          have c5 : w5.cell? ⟨g, 0, none⟩ = some _ := hblk5.cell 0
          have f5 := hblk5.frozen 0
          have hne5 := own_blk_ne hown5 hblk5 (by decide)
          go_wp2_with fail
          go_ret
          refine ⟨_, rfl, ⟨hBg, _, rfl, by simpa using hblk5.set_ 0 _, ?_⟩, hfin _, ?_⟩
          · rw [hEl, hE]; exact own_far hown5 hne5 _
          · rcases hat5 with h | ⟨b, h, hb⟩
            · exact .inl (h.trans hV)
            · exact .inr ⟨b, h, by simp at hb; omega⟩
      · have HST2 := Lib.hid (HM.out.trans (mg_end f' t' L k (by omega)))
        clear HM
        go_wp2_with fail
        have hown1 := hown.alloc (.cells #[.int .u64 f', .int .u64 t'] 30)
        have hsz2 := hb2.size
        have hsz3 := hB.size
        have hnv : ∀ a, a = (Value.slice _ L.length cap).ownBlock → a ≠ some wr.heap.size := fun a ha e => by have := (hown.lt _ (ha.symm.trans e)).2; omega
        refine (rep_any B i k L.length cap wr.heap.size _ f' t' L _ hown1 (by simp; omega) (by omega) (Blk.new wr 30 _) (hnv _ rfl) hik hkl).mono ?_
        rintro e w5 ⟨v', rfl, hown5, hgr5, hat5⟩
        have hblk5 := (hblk.alloc (.cells #[.int .u64 f', .int .u64 t'] 30)).grown hgr5 (fun e => hne0 (hV.symm.trans e.symm))
        have hE : ad f t L = L.take i ++ (f', t') :: L.drop k := by rw [← HA.out, HST2.out]
        have hEl : (ad f t L).length = i + 1 + (L.length - k) := by rw [hE]; simp; omega
        have hfin := Only.fin (g := g) ((hb2.trans (hB.mono hb2.size)).alloc (by omega) (.cells #[.int .u64 f', .int .u64 t'] 30)) (hV ▸ hgr5)
        obtain ⟨A5, cap5, rfl, _⟩ := sl_of_own hown5
        have c5 : w5.cell? ⟨g, 0, none⟩ = some _ := hblk5.cell 0
        have f5 := hblk5.frozen 0
        have hne5 := own_blk_ne hown5 hblk5 (by decide)
        go_wp2_with fail
        go_ret
        refine ⟨_, rfl, ⟨hBg, _, rfl, by simpa using hblk5.set_ 0 _, ?_⟩, hfin _, ?_⟩
        · rw [hEl, hE]; exact own_far hown5 hne5 _
        · rcases hat5 with h | ⟨b, h, hb⟩
          · exact .inl (h.trans hV)
          · exact .inr ⟨b, h, by simp at hb; omega⟩

end Go.Proofs.Ytcmkegkljappfaa
