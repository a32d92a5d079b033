/-
  A step of a script on both sets. No condition.
-/
import Derived.Test.YtcmkegkljappfaaSdo
namespace Go.Proofs.Ytcmkegkljappfaa
open Go.RowKit
set_option linter.unusedVariables false
set_option linter.unusedSimpArgs false


theorem Rp.add {R L : List (Int × Int)} (h : Rp R L) {f t : Int} (hf : 0 ≤ f) : Rp (adR f t R) (adN f t L) := by
  refine ⟨adN_nm h.n hf, fun x => ?_, fun r hr => ?_⟩
  · rw [adN_mem h.n hf]
    unfold adR
    split
    · next he => rw [Mm.app, h.m x, Mm.cons]; simp [Mm.nil, he]
    · next he => rw [h.m x]; simp [he]
  · unfold adR at hr
    split at hr
    · next he =>
      rcases List.mem_append.1 hr with hr | hr
      · exact h.o r hr
      · simp only [List.mem_singleton] at hr
        subst hr
        exact ⟨hf, (adE_ok he).1, (adE_ok he).2⟩
    · exact h.o r hr
theorem Rp.cut {R L : List (Int × Int)} (h : Rp R L) {f t : Int} (hf : 0 ≤ f) : Rp (cuN f t R) (cuN f t L) := by
  unfold cuN
  split
  · next hft =>
    refine ⟨ct_nm f t hft h.n, fun x => by rw [ct_mem f t hft, ct_mem f t hft, h.m x], fun r hr => ?_⟩
    simp only [ct, List.mem_flatMap] at hr
    obtain ⟨q, hq, hr⟩ := hr
    have ho := h.o q hq
    unfold ct1 at hr
    split at hr
    · simp only [List.mem_singleton] at hr
      subst hr
      exact ho
    · rcases List.mem_append.1 hr with hr | hr
      · split at hr
        · simp only [List.mem_singleton] at hr
          subst hr
          simp only
          omega
        · simp at hr
      · split at hr
        · simp only [List.mem_singleton] at hr
          subst hr
          simp only
          omega
        · simp at hr
  · exact h
theorem trN_eq (m : Int) (L : List (Int × Int)) : trN m L = L.drop (L.length - min L.length (max m 0).toNat) := by
  unfold trN
  split
  · next h => congr 1; omega
  · next h => rw [show L.length - min L.length (max m 0).toNat = 0 by omega]; rfl
theorem tr_rev (m : Int) (L : List (Int × Int)) : trR m L = (trN m L).reverse := by
  rw [trN_eq]
  unfold trR
  rw [List.reverse_drop]
  congr 1
  omega
theorem Rp.trim {L : List (Int × Int)} (h : Nm 0 L) (m : Int) : Rp (trR m L) (trN m L) := by
  have hn : Nm 0 (trN m L) := by rw [trN_eq]; exact h.drop _
  refine ⟨hn, fun x => by rw [tr_rev, Mm.rev], fun r hr => ?_⟩
  rw [tr_rev, List.mem_reverse] at hr
  have := nm_pos hn r hr
  exact this
/-- What a step does to the program's set. -/
def doL (d f t : Int) (L : List (Int × Int)) : List (Int × Int) := if d % 6 = 3 then drN f L else if d % 6 = 4 then cuN f t L else if d % 6 = 5 then trN (f % 5) L else adN f t L
theorem doL_nm {d f t : Int} {L : List (Int × Int)} (h : Nm 0 L) (hf : 0 ≤ f) : Nm 0 (doL d f t L) := by
  have hc : ∀ a b, Nm 0 (cuN a b L) := fun a b => by
    unfold cuN
    split
    · next hab => exact ct_nm a b hab h
    · exact h
  unfold doL
  split
  · unfold drN
    split
    · exact hc _ _
    · exact h
  · split
    · exact hc _ _
    · split
      · rw [trN_eq]; exact h.drop _
      · exact adN_nm h hf
theorem doL_len {d f t : Int} {L : List (Int × Int)} (h : Nm 0 L) : (doL d f t L).length ≤ L.length + 1 := by
  have hc : ∀ a b, (cuN a b L).length ≤ L.length + 1 := fun a b => by
    unfold cuN
    split
    · next hab => exact ct_len1 a b hab h
    · omega
  unfold doL
  split
  · unfold drN
    split
    · exact hc _ _
    · omega
  · split
    · exact hc _ _
    · split
      · rw [trN_eq, List.length_drop]; omega
      · exact adN_len _ _ _
/-- Both sets. -/
structure DS (B : Nat) (w : World) (g : Nat) (rb : Option Nat) (L : List (Int × Int)) (gx : Nat) (rx : Option Nat) (R : List (Int × Int)) : Prop where
  s : SetR B w g rb L
  x : RSet B w gx rx R
  ap : ∀ q, rb = some q → rx ≠ some q
  sz : B ≤ w.heap.size
section
variable {B : Nat} {w w' : World} {g gx : Nat} {rb rx rb' rx' : Option Nat} {L L' R R' : List (Int × Int)}
theorem DS.below (h : DS B w g rb L gx rx R) (hb : Below w.heap.size w w') : DS B w' g rb L gx rx R := ⟨h.s.below hb, h.x.below hb, h.ap, Nat.le_trans h.sz hb.size⟩
theorem DS.drew (h : DS B w g rb L gx rx R) : DS B w.drew g rb L gx rx R := ⟨h.s, h.x, h.ap, h.sz⟩
theorem DS.drewN (h : DS B w g rb L gx rx R) (n : Nat) : DS B (w.drewN n) g rb L gx rx R := ⟨h.s, h.x, h.ap, h.sz⟩
theorem DS.ne (h : DS B w g rb L gx rx R) : g ≠ gx ∧ some gx ≠ rb ∧ rx ≠ some g := by
  obtain ⟨_, V, hr, h1, h2⟩ := h.s
  obtain ⟨_, V', hr', h1', h2'⟩ := h.x
  refine ⟨Blk.ne_ h1 h1' (by decide), fun e => own_blk_ne h2 h1' (by decide) (by rw [hr, e]), fun e => own_blk_ne h2' h1 (by decide) (by rw [hr', e])⟩
theorem DS.stepT (h : DS B w g rb L gx rx R) (hs : SetR B w' g rb' L') (ho : Only w w' g rb) (hf : Fr w rb rb') : DS B w' g rb' L' gx rx R := by
  obtain ⟨n1, n2, n3⟩ := h.ne
  refine ⟨hs, ho.rset h.x (Ne.symm n1) n2 n3 ?_, fun q hq e => ?_, Nat.le_trans h.sz ho.size⟩
  · rcases hx : rx with _ | q
    · exact .inl rfl
    · exact .inr fun e => h.ap q e.symm hx
  · rcases hf q hq with h1 | h1
    · exact h.ap q h1 e
    · have := (h.x.rlt q e).2.1; omega
theorem DS.stepX (h : DS B w g rb L gx rx R) (hs : RSet B w' gx rx' R') (ho : w.grownBy w' (some gx)) (hf : Fr w rx rx') : DS B w' g rb L gx rx' R' := by
  obtain ⟨n1, n2, n3⟩ := h.ne
  have ho' : Only w w' gx none := Only.of_grown ho
  refine ⟨ho'.set h.s n1 (by simp) (fun e => n2 e.symm) ?_, hs, fun q hq e => ?_, Nat.le_trans h.sz ho.size⟩
  · rcases rb with _ | q
    · exact .inl rfl
    · exact .inr (by simp)
  · rcases hf q e with h1 | h1
    · exact h.ap q hq h1
    · have := (h.s.rlt q hq).2.1; omega
/-- A block of another kind stays. -/
theorem DS.keepT (h : DS B w g rb L gx rx R) (ho : Only w w' g rb) {b : Nat} {t : TypeId} {cs : Array Value} (hb : Blk w b t cs) (h1 : t ≠ 58) (h2 : t ≠ 30) : Blk w' b t cs := by
  obtain ⟨_, V, hr, k1, k2⟩ := h.s
  exact ho.blk hb (Blk.ne_ hb k1 h1) (fun e => own_blk_ne k2 hb (Ne.symm h2) (by rw [hr, e]))
theorem DS.keepX (h : DS B w g rb L gx rx R) (ho : w.grownBy w' (some gx)) {b : Nat} {t : TypeId} {cs : Array Value} (hb : Blk w b t cs) (h1 : t ≠ 37) : Blk w' b t cs := by
  obtain ⟨_, V, hr, k1, k2⟩ := h.x
  exact hb.grown ho (by simpa using Blk.ne_ hb k1 h1)
theorem DS.belowT (h : DS B w g rb L gx rx R) (ho : Only w w' g rb) : Below B w w' := ho.below h.s.1 (fun b hb => (h.s.rlt b hb).1) h.sz
theorem DS.belowX (h : DS B w g rb L gx rx R) (ho : w.grownBy w' (some gx)) : Below B w w' := below_of_grown ho h.sz (fun b hb => by injection hb with hb; have := h.x.1; omega)
end
theorem ds_drop_T {B : Nat} {w : World} {g gx : Nat} {rb rx : Option Nat} {L R : List (Int × Int)} {ob : Nat} {oc : Array Value} {f t : Int} (h : DS B w g rb L gx rx R) (hN : Nm 0 L) (hL : L.length ≤ 1000000) (hf : 0 ≤ f ∧ f ≤ 18446744073709551615) (ht : 0 ≤ t ∧ t ≤ 18446744073709551615) (ho : Blk w ob 39 oc) :
    Calls Try.prog 28 #[.pointer (some ⟨g, 0, none⟩), .int .u64 f] w fun e w' => ∃ rb', e = .returned (.tuple #[]) ∧ DS B w' g rb' (drN f L) gx rx R ∧ Blk w' ob 39 oc ∧ Below B w w' := by
  have hP : PairsOk L := fun r hr => by
    have := nm_pos hN r hr
    simp only [MX] at this
    omega
  refine (drop_any B g rb L f w h.s h.sz (by omega) hP hf).mono ?_
  rintro e w' ⟨rb', rfl, h1, h2, h3⟩
  exact ⟨rb', rfl, h.stepT h1 (Only.of_grown h2) h3, h.keepT (Only.of_grown h2) ho (by decide) (by decide), h.belowT (Only.of_grown h2)⟩
theorem ds_cut_T {B : Nat} {w : World} {g gx : Nat} {rb rx : Option Nat} {L R : List (Int × Int)} {ob : Nat} {oc : Array Value} {f t : Int} (h : DS B w g rb L gx rx R) (hN : Nm 0 L) (hL : L.length ≤ 1000000) (hf : 0 ≤ f ∧ f ≤ 18446744073709551615) (ht : 0 ≤ t ∧ t ≤ 18446744073709551615) (ho : Blk w ob 39 oc) :
    Calls Try.prog 20 #[.pointer (some ⟨g, 0, none⟩), .int .u64 f, .int .u64 t] w fun e w' => ∃ rb', e = .returned (.tuple #[]) ∧ DS B w' g rb' (cuN f t L) gx rx R ∧ Blk w' ob 39 oc ∧ Below B w w' := by
  have hP : PairsOk L := fun r hr => by
    have := nm_pos hN r hr
    simp only [MX] at this
    omega
  refine (cut_any B g rb L f t w h.s h.sz (by omega) hP hf ht).mono ?_
  rintro e w' ⟨rb', rfl, h1, h2, h3⟩
  exact ⟨rb', rfl, h.stepT h1 (Only.of_grown h2) h3, h.keepT (Only.of_grown h2) ho (by decide) (by decide), h.belowT (Only.of_grown h2)⟩
theorem ds_trim_T {B : Nat} {w : World} {g gx : Nat} {rb rx : Option Nat} {L R : List (Int × Int)} {ob : Nat} {oc : Array Value} {f t : Int} (m : Int) (h : DS B w g rb L gx rx R) (hN : Nm 0 L) (hL : L.length ≤ 1000000) (hf : 0 ≤ f ∧ f ≤ 18446744073709551615) (ht : 0 ≤ t ∧ t ≤ 18446744073709551615) (ho : Blk w ob 39 oc) :
    Calls Try.prog 17 #[.pointer (some ⟨g, 0, none⟩), .int .i64 m] w fun e w' => ∃ rb', e = .returned (.tuple #[]) ∧ DS B w' g rb' (trN m L) gx rx R ∧ Blk w' ob 39 oc ∧ Below B w w' := by
  refine (trim_any B g rb L m w h.s h.sz hL).mono ?_
  rintro e w' ⟨rb', rfl, h1, h2, h3⟩
  exact ⟨rb', rfl, h.stepT h1 (Only.of_grown h2) h3, h.keepT (Only.of_grown h2) ho (by decide) (by decide), h.belowT (Only.of_grown h2)⟩
theorem ds_add_T {B : Nat} {w : World} {g gx : Nat} {rb rx : Option Nat} {L R : List (Int × Int)} {ob : Nat} {oc : Array Value} {f t : Int} (h : DS B w g rb L gx rx R) (hN : Nm 0 L) (hL : L.length ≤ 1000000) (hf : 0 ≤ f ∧ f ≤ 18446744073709551615) (ht : 0 ≤ t ∧ t ≤ 18446744073709551615) (ho : Blk w ob 39 oc) :
    Calls Try.prog 11 #[.pointer (some ⟨g, 0, none⟩), .int .u64 f, .int .u64 t] w fun e w' => ∃ rb', e = .returned (.int .i64 (adE f t)) ∧ DS B w' g rb' (adN f t L) gx rx R ∧ Blk w' ob 39 oc ∧ Below B w w' := by
  refine (add_any B g rb f t L w h.s hN hL h.sz hf.1).mono ?_
  rintro e w' ⟨rb', rfl, h1, h2, h3⟩
  exact ⟨rb', rfl, h.stepT h1 h2 (Fr.of h3), h.keepT h2 ho (by decide) (by decide), h.belowT h2⟩
theorem ds_cut_X {B : Nat} {w : World} {g gx : Nat} {rb rx : Option Nat} {L R K : List (Int × Int)} {ob : Nat} {oc : Array Value} {f t : Int} (h : DS B w g rb L gx rx R) (hR : Rp R K) (hL : R.length ≤ 4000000000) (hf : 0 ≤ f ∧ f ≤ 18446744073709551615) (ht : 0 ≤ t ∧ t ≤ 18446744073709551615) (ho : Blk w ob 39 oc) :
    Calls Try.prog 29 #[.pointer (some ⟨gx, 0, none⟩), .int .u64 f, .int .u64 t] w fun e w' => ∃ rx', e = .returned (.tuple #[]) ∧ DS B w' g rb L gx rx' (cuN f t R) ∧ Blk w' ob 39 oc ∧ Below B w w' := by
  have hP : PairsOk R := fun r hr => by
    have := hR.o r hr
    simp only [MX] at this
    omega
  refine (cutR_any B gx rx R f t w h.x h.sz hL hP hf ht).mono ?_
  rintro e w' ⟨rx', rfl, h1, h2, h3⟩
  exact ⟨rx', rfl, h.stepX h1 h2 h3, h.keepX h2 ho (by decide), h.belowX h2⟩
theorem ds_trim_X {B : Nat} {w : World} {g gx : Nat} {rb rx : Option Nat} {L R K : List (Int × Int)} {ob : Nat} {oc : Array Value} {f t : Int} (m : Int) (h : DS B w g rb L gx rx R) (hR : Rp R K) (hL : R.length ≤ 4000000000) (hf : 0 ≤ f ∧ f ≤ 18446744073709551615) (ht : 0 ≤ t ∧ t ≤ 18446744073709551615) (ho : Blk w ob 39 oc) :
    Calls Try.prog 30 #[.pointer (some ⟨gx, 0, none⟩), .int .i64 m] w fun e w' => ∃ rx', e = .returned (.tuple #[]) ∧ DS B w' g rb L gx rx' (trR m K) ∧ Blk w' ob 39 oc ∧ Below B w w' := by
  have hP : PairsOk R := fun r hr => by
    have := hR.o r hr
    simp only [MX] at this
    omega
  refine (trimR_any B gx rx R K m w h.x hR h.sz hL).mono ?_
  rintro e w' ⟨rx', rfl, h1, h2, h3⟩
  exact ⟨rx', rfl, h.stepX h1 h2 h3, h.keepX h2 ho (by decide), h.belowX h2⟩
theorem ds_add_X {B : Nat} {w : World} {g gx : Nat} {rb rx : Option Nat} {L R K : List (Int × Int)} {ob : Nat} {oc : Array Value} {f t : Int} (h : DS B w g rb L gx rx R) (hR : Rp R K) (hL : R.length ≤ 4000000000) (hf : 0 ≤ f ∧ f ≤ 18446744073709551615) (ht : 0 ≤ t ∧ t ≤ 18446744073709551615) (ho : Blk w ob 39 oc) :
    Calls Try.prog 31 #[.pointer (some ⟨gx, 0, none⟩), .int .u64 f, .int .u64 t] w fun e w' => ∃ rx', e = .returned (.int .i64 (adE f t)) ∧ DS B w' g rb L gx rx' (adR f t R) ∧ Blk w' ob 39 oc ∧ Below B w w' := by
  have hP : PairsOk R := fun r hr => by
    have := hR.o r hr
    simp only [MX] at this
    omega
  refine (addR_any B gx rx R f t w h.x h.sz hL hf.1).mono ?_
  rintro e w' ⟨rx', rfl, h1, h2, h3⟩
  exact ⟨rx', rfl, h.stepX h1 h2 h3, h.keepX h2 ho (by decide), h.belowX h2⟩
/-- What a step does to the reference's set. -/
def doR (d f t : Int) (L R : List (Int × Int)) : List (Int × Int) := if d % 6 = 3 then (if 0 < f then cuN 0 (f - 1) R else R) else if d % 6 = 4 then cuN f t R else if d % 6 = 5 then trR (f % 5) L else adR f t R
theorem doR_rp {d f t : Int} {L R : List (Int × Int)} (h : Rp R L) (hf : 0 ≤ f) : Rp (doR d f t L R) (doL d f t L) := by
  unfold doR doL
  split
  · unfold drN
    split
    · exact h.cut (Int.le_refl _)
    · exact h
  · split
    · exact h.cut hf
    · split
      · exact Rp.trim h.n _
      · exact h.add hf
theorem doR_len {d f t : Int} {L R : List (Int × Int)} (h : L.length ≤ R.length) : (doR d f t L R).length ≤ 2 * R.length + 1 := by
  have hc : ∀ a b, (cuN a b R).length ≤ 2 * R.length := fun a b => by
    unfold cuN
    split
    · exact ct_len a b R
    · omega
  unfold doR
  split
  · split
    · have := hc 0 (f - 1); omega
    · omega
  · split
    · have := hc f t; omega
    · split
      · unfold trR; rw [List.length_take, List.length_reverse]; omega
      · unfold adR
        split
        · simp; omega
        · omega
set_option maxHeartbeats 8000000 in
set_option maxRecDepth 100000 in
theorem do_any (B : Nat) (w : World) (g gx : Nat) (rb rx : Option Nat) (L R : List (Int × Int)) (d f t : Int) (h : DS B w g rb L gx rx R) (hR : Rp R L) (hL : L.length ≤ 1000000) (hRl : R.length ≤ 2000000000) (hd : 0 ≤ d ∧ d ≤ 255) (hf : 0 ≤ f ∧ f ≤ 18446744073709551615) (ht : 0 ≤ t ∧ t ≤ 18446744073709551615) :
    Calls Try.prog 14 #[.pointer (some ⟨g, 0, none⟩), .pointer (some ⟨gx, 0, none⟩), .agg #[.int .u8 d, .int .u64 f, .int .u64 t]] w fun e w' => ∃ rb' rx', e = .returned (.bool true) ∧ DS B w' g rb' (doL d f t L) gx rx' (doR d f t L R) ∧ Below B w w' := by
  have hal := (Below.refl w.heap.size w).alloc (Nat.le_refl _) (.cells #[.int .u8 d, .int .u64 f, .int .u64 t] 39)
  have h0 := h.below hal
  have hb0 : Below B w (w.alloc (.cells #[.int .u8 d, .int .u64 f, .int .u64 t] 39)) := hal.mono h.sz
  have hO := Blk.new w 39 #[.int .u8 d, .int .u64 f, .int .u64 t]
  have o0 : World.cell? (w.alloc (.cells #[.int .u8 d, .int .u64 f, .int .u64 t] 39)) ⟨w.heap.size, 0, none⟩ = some (.int .u8 d) := hO.cell 0
  have o1 : World.cell? (w.alloc (.cells #[.int .u8 d, .int .u64 f, .int .u64 t] 39)) ⟨w.heap.size, 1, none⟩ = some (.int .u64 f) := hO.cell 1
  have o2 : World.cell? (w.alloc (.cells #[.int .u8 d, .int .u64 f, .int .u64 t] 39)) ⟨w.heap.size, 2, none⟩ = some (.int .u64 t) := hO.cell 2
  have hN := hR.n
  have hRl4 : R.length ≤ 4000000000 := by omega
  have HN := Lib.hid hN
  have HR := Lib.hid hR
  clear hN hR hal h
  unfold doL doR
  by_cases h3 : d % 6 = 3
  · rw [if_pos h3, if_pos h3]
    have h3' : (d % 6 == 3) = true := by simpa using h3
    by_cases hf0 : 0 < f
    · rw [if_pos hf0]
      have hw : IntKind.u64.wrap (f - 1) = f - 1 := Go.IntWalk.u64_in _ (by omega)
      clear h3
      go_enter Try.func14, Try.ntmps14
      go_wp2_with fail
      (with_reducible refine (ds_drop_T (f := f) (t := t) h0 HN.out hL hf ht hO).mono ?_)
      rintro e w2 ⟨rb', rfl, hd2, hO2, hb2⟩
      have hb2 := hb0.trans hb2
      have p1 : w2.cell? ⟨w.heap.size, 1, none⟩ = some (.int .u64 f) := hO2.cell 1
      clear o0 o1 o2 h0 hb0 hO
      go_wp2_with fail
      (with_reducible refine (ds_cut_X (f := 0) (t := f - 1) hd2 HR.out hRl4 (by omega) (by omega) hO2).mono ?_)
      rintro e w3 ⟨rx', rfl, hd3, hO3, hb3⟩
      clear p1
      go_wp2_with fail
      go_ret
      exact ⟨rb', rx', rfl, hd3, hb2.trans hb3⟩
    · rw [if_neg hf0]
      have hf0' : decide (0 < f) = false := decide_eq_false hf0
      clear h3
      go_enter Try.func14, Try.ntmps14
      go_wp2_with fail
      (with_reducible refine (ds_drop_T (f := f) (t := t) h0 HN.out hL hf ht hO).mono ?_)
      rintro e w2 ⟨rb', rfl, hd2, hO2, hb2⟩
      have hb2 := hb0.trans hb2
      have p1 : w2.cell? ⟨w.heap.size, 1, none⟩ = some (.int .u64 f) := hO2.cell 1
      clear o0 o1 o2 h0 hb0 hO
      go_wp2_with fail
      go_ret
      exact ⟨rb', rx, rfl, hd2, hb2⟩
  · rw [if_neg h3, if_neg h3]
    have h3' : (d % 6 == 3) = false := by simpa using h3
    clear h3
    by_cases h4 : d % 6 = 4
    · rw [if_pos h4, if_pos h4]
      have h4' : (d % 6 == 4) = true := by simpa using h4
      clear h4
      go_enter Try.func14, Try.ntmps14
      go_wp2_with fail
      (with_reducible refine (ds_cut_T (f := f) (t := t) h0 HN.out hL hf ht hO).mono ?_)
      rintro e w2 ⟨rb', rfl, hd2, hO2, hb2⟩
      have hb2 := hb0.trans hb2
      have p1 : w2.cell? ⟨w.heap.size, 1, none⟩ = some (.int .u64 f) := hO2.cell 1
      have p2 : w2.cell? ⟨w.heap.size, 2, none⟩ = some (.int .u64 t) := hO2.cell 2
      clear o0 o1 o2 h0 hb0 hO
      go_wp2_with fail
      (with_reducible refine (ds_cut_X (f := f) (t := t) hd2 HR.out hRl4 hf ht hO2).mono ?_)
      rintro e w3 ⟨rx', rfl, hd3, hO3, hb3⟩
      clear p1 p2
      go_wp2_with fail
      go_ret
      exact ⟨rb', rx', rfl, hd3, hb2.trans hb3⟩
    · rw [if_neg h4, if_neg h4]
      have h4' : (d % 6 == 4) = false := by simpa using h4
      clear h4
      by_cases h5 : d % 6 = 5
      · rw [if_pos h5, if_pos h5]
        have h5' : (d % 6 == 5) = true := by simpa using h5
        clear h5
        have hw : IntKind.i64.wrap (f % 5) = f % 5 := Go.IntWalk.i64_in _ (by omega)
        go_enter Try.func14, Try.ntmps14
        go_wp2_with fail
        (with_reducible refine (ds_trim_T (f := f) (t := t) (f % 5) h0 HN.out hL hf ht hO).mono ?_)
        rintro e w2 ⟨rb', rfl, hd2, hO2, hb2⟩
        have hb2 := hb0.trans hb2
        have p1 : w2.cell? ⟨w.heap.size, 1, none⟩ = some (.int .u64 f) := hO2.cell 1
        clear o0 o1 o2 h0 hb0 hO
        go_wp2_with fail
        (with_reducible refine (ds_trim_X (f := f) (t := t) (f % 5) hd2 HR.out hRl4 hf ht hO2).mono ?_)
        rintro e w3 ⟨rx', rfl, hd3, hO3, hb3⟩
        clear p1
        go_wp2_with fail
        go_ret
        exact ⟨rb', rx', rfl, hd3, hb2.trans hb3⟩
      · rw [if_neg h5, if_neg h5]
        have h5' : (d % 6 == 5) = false := by simpa using h5
        clear h5
        go_enter Try.func14, Try.ntmps14
        go_wp2_with fail
        go_region_held3 (fun w' => w'.cell? ⟨w.heap.size, 1, none⟩ = some (.int .u64 f) ∧ w'.cell? ⟨w.heap.size, 2, none⟩ = some (.int .u64 t)) (first | with_reducible exact ⟨o1, o2⟩ | with_reducible exact ⟨t1, t2⟩ | with_reducible exact ⟨x1, x2⟩ | exact ⟨t1, t2⟩ | exact ⟨x1, x2⟩ | exact ⟨o1, o2⟩)
          (first
            | (go_at_call 11; (first | (with_reducible refine (ds_add_T (f := f) (t := t) h0 HN.out hL hf ht hO).mono ?_) | (with_reducible refine (ds_add_T (f := f) (t := t) h0.drew HN.out hL hf ht hO.drew).mono ?_) | (with_reducible refine (ds_add_T (f := f) (t := t) hS2 HN.out hL hf ht hO2).mono ?_) | (with_reducible refine (ds_add_T (f := f) (t := t) hS2.drew HN.out hL hf ht hO2.drew).mono ?_)); rintro e wT ⟨rbT, rfl, hS1, hO1, hbT⟩; have t1 : wT.cell? ⟨w.heap.size, 1, none⟩ = some (.int .u64 f) := hO1.cell 1; have t2 : wT.cell? ⟨w.heap.size, 2, none⟩ = some (.int .u64 t) := hO1.cell 2)
            | (go_at_call 31; (first | (with_reducible refine (ds_add_X (f := f) (t := t) h0 HR.out hRl4 hf ht hO).mono ?_) | (with_reducible refine (ds_add_X (f := f) (t := t) h0.drew HR.out hRl4 hf ht hO.drew).mono ?_) | (with_reducible refine (ds_add_X (f := f) (t := t) hS1 HR.out hRl4 hf ht hO1).mono ?_) | (with_reducible refine (ds_add_X (f := f) (t := t) hS1.drew HR.out hRl4 hf ht hO1.drew).mono ?_)); rintro e wX ⟨rxX, rfl, hS2, hO2, hbX⟩; have x1 : wX.cell? ⟨w.heap.size, 1, none⟩ = some (.int .u64 f) := hO2.cell 1; have x2 : wX.cell? ⟨w.heap.size, 2, none⟩ = some (.int .u64 t) := hO2.cell 2))
        all_goals
          go_wp2_with fail
          go_ret
          first
          | exact ⟨rbT, rxX, by simp, hS2, (hb0.trans (by first | exact hbT | exact below_pre hbT)).trans (by first | exact hbX | exact below_pre hbX)⟩
          | exact ⟨rbT, rxX, by simp, hS1, (hb0.trans (by first | exact hbX | exact below_pre hbX)).trans (by first | exact hbT | exact below_pre hbT)⟩
          | exact ⟨rbT, rxX, by simp, hS2.drew, below_drewN ((hb0.trans (by first | exact hbT | exact below_pre hbT)).trans (by first | exact hbX | exact below_pre hbX)) 1⟩
          | exact ⟨rbT, rxX, by simp, hS1.drew, below_drewN ((hb0.trans (by first | exact hbX | exact below_pre hbX)).trans (by first | exact hbT | exact below_pre hbT)) 1⟩

end Go.Proofs.Ytcmkegkljappfaa
