/-
  The reference's purse: grants and what was spent, and what its functions do, each once.
-/
import Derived.Test.YtljddpgefbcfmaaScript
namespace Go.Proofs.Ytljddpgefbcfmaa
open Go.RowKit
set_option linter.unusedVariables false
set_option linter.unusedSimpArgs false


/-- The greatest grant; all that was spent. -/
def limI (gs : List Int) : Int := gs.foldl (fun m g => max m (mostI g)) 0
def spentI (ss : List Int) : Int := ss.foldl (fun a b => a + b) 0
theorem limI_snoc (gs : List Int) (g : Int) : limI (gs ++ [g]) = max (limI gs) (mostI g) := by simp [limI]
theorem spentI_snoc (ss : List Int) (s : Int) : spentI (ss ++ [s]) = spentI ss + s := by simp [spentI]
theorem take_snocI (l : List Int) (k : Nat) (h : k < l.length) : l.take (k + 1) = l.take k ++ [l.getD k 0] := by
  rw [List.take_succ_eq_append_getElem h]; simp [h]
theorem limI_bounds (gs : List Int) (hp : ∀ x ∈ gs, 0 ≤ x) : 0 ≤ limI gs ∧ limI gs ≤ 4611686018427387903 := by
  suffices H : ∀ a : Int, 0 ≤ a → a ≤ 4611686018427387903 → 0 ≤ gs.foldl (fun m g => max m (mostI g)) a ∧ gs.foldl (fun m g => max m (mostI g)) a ≤ 4611686018427387903 from H 0 (by omega) (by omega)
  induction gs with
  | nil => intro a h0 h1; exact ⟨h0, h1⟩
  | cons x r ih =>
    intro a h0 h1
    have := mostI_le x
    exact ih (fun y hy => hp y (by simp [hy])) (max a (mostI x)) (by omega) (by omega)
theorem spentI_from (r : List Int) (hp : ∀ x ∈ r, 0 ≤ x) (a : Int) : a ≤ r.foldl (fun a b => a + b) a := by
  induction r generalizing a with
  | nil => exact Int.le_refl _
  | cons x r ih =>
    have h1 := ih (fun y hy => hp y (by simp [hy])) (a + x)
    have h2 := hp x (by simp)
    simp only [List.foldl_cons]
    omega
theorem spentI_take (ss : List Int) (hp : ∀ x ∈ ss, 0 ≤ x) (k : Nat) : 0 ≤ spentI (ss.take k) ∧ spentI (ss.take k) ≤ spentI ss := by
  refine ⟨spentI_from _ (fun x hx => hp x (List.mem_of_mem_take hx)) 0, ?_⟩
  have h : spentI ss = (ss.drop k).foldl (fun a b => a + b) (spentI (ss.take k)) := by
    unfold spentI
    rw [← List.foldl_append, List.take_append_drop]
  rw [h]
  exact spentI_from _ (fun x hx => hp x (List.mem_of_mem_drop hx)) _

theorem limit_nil (w : World) : Calls Try.prog 22 #[.pointer none] w fun e w' => e = .returned (.int .u64 0) ∧ w = w' := by
  go_enter Try.func22, Try.ntmps22
  go_wp2
  go_ret
  exact ⟨rfl, rfl⟩
theorem spent_nil (w : World) : Calls Try.prog 25 #[.pointer none] w fun e w' => e = .returned (.int .u64 0) ∧ w = w' := by
  go_enter Try.func25, Try.ntmps25
  go_wp2
  go_ret
  exact ⟨rfl, rfl⟩

set_option maxHeartbeats 2000000 in
theorem limit_any (g : Nat) (A : Option Addr) (n cap : Nat) (sv : Value) (gs : List Int) (w : World) (hg : w.cell? ⟨g, 0, none⟩ = some (.slice A n cap)) (hn : gs.length = n) (hl : n ≤ 9223372036854775807)
    (hA : SlAt w 1 A n (fun k _ => .int .u64 (gs.getD k 0))) (hp : ∀ x ∈ gs, 0 ≤ x) :
    Calls Try.prog 22 #[.pointer (some ⟨g, 0, none⟩)] w fun e w' => e = .returned (.int .u64 (limI gs)) ∧ w = w' := by
  go_enter Try.func22, Try.ntmps22
  go_wp2_with fail
  go_loop [3, 13] (fun m i => ∃ k : Nat, k ≤ n ∧ i = .int .i64 k ∧ m = .int .u64 (limI (gs.take k))) (fun _ i => n - (intOf i).toNat)
  case atStart => exact ⟨0, Nat.zero_le _, rfl, rfl⟩
  case round =>
    obtain ⟨k, hk, rfl, rfl⟩ := hrel
    by_cases hlt : k < n
    · obtain ⟨b, off, rfl, hb, hc⟩ := hA k hlt
      have c0 : w.cell? ⟨b, off + k, none⟩ = some (.int .u64 (gs.getD k 0)) := by have := hc 0 (by omega); simpa using this
      obtain ⟨x, hx⟩ : ∃ x, x = gs.getD k 0 := ⟨_, rfl⟩
      rw [← hx] at c0
      have hs : limI (gs.take (k + 1)) = max (limI (gs.take k)) (mostI x) := by rw [take_snocI gs k (by omega), limI_snoc, ← hx]
      have HS := Lib.hid hs
      obtain ⟨m, hm⟩ : ∃ m, m = limI (gs.take k) := ⟨_, rfl⟩
      rw [← hm] at hs ⊢
      have HM := Lib.hid hm
      have hcase : (m < mostI x ∧ limI (gs.take (k + 1)) = mostI x) ∨ (mostI x ≤ m ∧ limI (gs.take (k + 1)) = m) := by omega
      clear hs hm hx hc
      rcases hcase with ⟨h1, h2⟩ | ⟨h1, h2⟩
      all_goals
        have H2 := Lib.hid h2
        clear h2
        go_wp2_with (go_at_call 10; refine (top_any _ _).mono ?_; rintro e w' ⟨rfl, rfl⟩)
        go_round
        case rel => exact ⟨k + 1, by omega, by go_num, by rw [H2.out]⟩
        case measure => simp [intOf]; omega
    · go_wp2
      go_ret
      exact ⟨by rw [List.take_of_length_le (by omega)]; rfl, rfl⟩

set_option maxHeartbeats 2000000 in
theorem spent_any (g : Nat) (A : Option Addr) (n cap : Nat) (ss : List Int) (w : World) (hg : w.cell? ⟨g, 1, none⟩ = some (.slice A n cap)) (hn : ss.length = n) (hl : n ≤ 9223372036854775807)
    (hA : SlAt w 1 A n (fun k _ => .int .u64 (ss.getD k 0))) (hp : ∀ x ∈ ss, 0 ≤ x) (hs : spentI ss ≤ 4611686018427387903) :
    Calls Try.prog 25 #[.pointer (some ⟨g, 0, none⟩)] w fun e w' => e = .returned (.int .u64 (spentI ss)) ∧ w = w' := by
  go_enter Try.func25, Try.ntmps25
  go_wp2_with fail
  go_loop [3, 13] (fun m i => ∃ k : Nat, k ≤ n ∧ i = .int .i64 k ∧ m = .int .u64 (spentI (ss.take k))) (fun _ i => n - (intOf i).toNat)
  case atStart => exact ⟨0, Nat.zero_le _, rfl, rfl⟩
  case round =>
    obtain ⟨k, hk, rfl, rfl⟩ := hrel
    by_cases hlt : k < n
    · obtain ⟨b, off, rfl, hb, hc⟩ := hA k hlt
      have c0 : w.cell? ⟨b, off + k, none⟩ = some (.int .u64 (ss.getD k 0)) := by have := hc 0 (by omega); simpa using this
      obtain ⟨x, hx⟩ : ∃ x, x = ss.getD k 0 := ⟨_, rfl⟩
      rw [← hx] at c0
      have hst : spentI (ss.take (k + 1)) = spentI (ss.take k) + x := by rw [take_snocI ss k (by omega), spentI_snoc, ← hx]
      have b0 := spentI_take ss hp k
      have b1 := spentI_take ss hp (k + 1)
      obtain ⟨m, hm⟩ : ∃ m, m = spentI (ss.take k) := ⟨_, rfl⟩
      rw [← hm] at hst b0 ⊢
      obtain ⟨m', hm'⟩ : ∃ m', m' = spentI (ss.take (k + 1)) := ⟨_, rfl⟩
      rw [← hm'] at hst b1
      have hb1 : 0 ≤ m + x ∧ m + x ≤ 4611686018427387903 := by omega
      have HM' := Lib.hid hm'
      have HS := Lib.hid hst
      clear hst hm hx hc hm' b1
      go_wp2_with fail
      go_round
      case rel => exact ⟨k + 1, by omega, by go_num, by rw [← HM'.out, HS.out]⟩
      case measure => simp [intOf]; omega
    · go_wp2
      go_ret
      exact ⟨by rw [List.take_of_length_le (by omega)]; rfl, rfl⟩


theorem info22 : (Try.prog.info? 22).map (fun i => (i.zero, i.size, i.bytes)) = some (some (.int .u64 0), 1, 8) := by kernel_rfl

/-- The reference's purse at block g, in whose call all blocks from 'base' on were made. -/
def RPur (w : World) (base g : Nat) (gs ss : List Int) : Prop := ∃ gv sv, Blk w g 50 #[gv, sv] ∧ base ≤ g ∧ w.ownsRow base 22 1 gv gs.length (gs.map (Value.int .u64)) ∧ w.ownsRow base 22 1 sv ss.length (ss.map (Value.int .u64)) ∧
  (∀ b, gv.ownBlock = some b → sv.ownBlock ≠ some b) ∧ (∀ x ∈ gs, 0 ≤ x) ∧ (∀ x ∈ ss, 0 ≤ x) ∧ gs.length ≤ 1000 ∧ ss.length ≤ 1000
section
variable {w w' : World} {base g : Nat} {gs ss : List Int}
theorem RPur.grown {r : Option Nat} (h : RPur w base g gs ss) (hb : w.grownBy w' r) (hr : r = none ∨ ∃ b t cs, r = some b ∧ Blk w b t cs ∧ t ≠ 22 ∧ t ≠ 50) : RPur w' base g gs ss := by
  obtain ⟨gv, sv, h1, h2, h3, h4, h5⟩ := h
  refine ⟨gv, sv, h1.grown hb ?_, h2, own_grown h3 hb ?_, own_grown h4 hb ?_, h5⟩
  all_goals
    rcases hr with rfl | ⟨b, t, cs, rfl, hB, n1, n2⟩
    · simp
    · first
        | (have := h1.ne_ hB (Ne.symm n2); simpa using this)
        | exact .inr (own_blk_ne h3 hB (Ne.symm n1))
        | exact .inr (own_blk_ne h4 hB (Ne.symm n1))
theorem RPur.alloc (h : RPur w base g gs ss) (o : Obj) : RPur (w.alloc o) base g gs ss := h.grown (grown_alloc (grown_refl w none) o) (.inl rfl)
theorem RPur.drewN (h : RPur w base g gs ss) (k : Nat) : RPur (w.drewN k) base g gs ss := h
theorem RPur.drew (h : RPur w base g gs ss) : RPur w.drew base g gs ss := h
end

theorem slI {w : World} {A : Option Addr} {n : Nat} {l : List Int} (h : SlAt w 1 A n (fun k j => (l.map (Value.int .u64)).getD (k * 1 + j) undef)) (hn : n = l.length) : SlAt w 1 A n (fun k _ => .int .u64 (l.getD k 0)) := fun k hk => by
  obtain ⟨b, off, e, hb, hc⟩ := h k hk
  refine ⟨b, off, e, hb, fun j hj => ?_⟩
  obtain rfl : j = 0 := by omega
  have h1 := hc 0 (by omega)
  have hk' : k < l.length := by omega
  simpa [hk'] using h1

theorem rlimit_any (base g : Nat) (gs ss : List Int) (w : World) (h : RPur w base g gs ss) :
    Calls Try.prog 22 #[.pointer (some ⟨g, 0, none⟩)] w fun e w' => e = .returned (.int .u64 (limI gs)) ∧ w = w' := by
  obtain ⟨gv, sv, h1, h2, h3, h4, h5, h6, h7, h8, h9⟩ := h
  obtain ⟨A, cap, rfl, hn, hc, hA⟩ := sl_of_own h3
  exact limit_any g A gs.length cap sv gs w (h1.cell 0) rfl (by omega) (slI hA rfl) h6
theorem rspent_any (base g : Nat) (gs ss : List Int) (w : World) (h : RPur w base g gs ss) (hs : spentI ss ≤ 4611686018427387903) :
    Calls Try.prog 25 #[.pointer (some ⟨g, 0, none⟩)] w fun e w' => e = .returned (.int .u64 (spentI ss)) ∧ w = w' := by
  obtain ⟨gv, sv, h1, h2, h3, h4, h5, h6, h7, h8, h9⟩ := h
  obtain ⟨A, cap, rfl, hn, hc, hA⟩ := sl_of_own h4
  exact spent_any g A ss.length cap ss w (h1.cell 1) rfl (by omega) (slI hA rfl) h7 hs

theorem rspend_nil (n : Int) (w : World) : Calls Try.prog 23 #[.pointer none, .int .u64 n] w fun e w' => e = .returned (.int .i64 6) ∧ w = w' := by
  go_enter Try.func23, Try.ntmps23
  go_wp2
  go_ret
  exact ⟨rfl, rfl⟩
theorem rspend_no (base g : Nat) (gs ss : List Int) (n : Int) (w : World) (h : RPur w base g gs ss) (hs : spentI ss ≤ limI gs) (hn : limI gs - spentI ss < n) :
    Calls Try.prog 23 #[.pointer (some ⟨g, 0, none⟩), .int .u64 n] w fun e w' => e = .returned (.int .i64 12) ∧ w = w' := by
  have hb := limI_bounds gs (by obtain ⟨gv, sv, h1, h2, h3, h4, h5, h6, h7⟩ := h; exact h6)
  have hb2 := (spentI_take ss (by obtain ⟨gv, sv, h1, h2, h3, h4, h5, h6, h7, h8⟩ := h; exact h7) ss.length).1
  rw [List.take_length] at hb2
  have H := Lib.hid h
  clear h
  go_enter Try.func23, Try.ntmps23
  go_wp2_with fail
  refine (rlimit_any base g gs ss _ H.out).mono ?_
  rintro e w1 ⟨rfl, rfl⟩
  go_wp2_with fail
  refine (rspent_any base g gs ss _ H.out (by omega)).mono ?_
  rintro e w1 ⟨rfl, rfl⟩
  go_wp2
  go_ret
  exact ⟨rfl, rfl⟩

set_option maxHeartbeats 2000000 in
theorem rspend_yes (base g : Nat) (gs ss : List Int) (n : Int) (w : World) (h : RPur w base g gs ss) (hbase : base ≤ w.heap.size) (hss : ss.length ≤ 900) (hs : spentI ss ≤ limI gs) (h0 : 0 ≤ n) (hn : n ≤ limI gs - spentI ss) :
    Calls Try.prog 23 #[.pointer (some ⟨g, 0, none⟩), .int .u64 n] w fun e w' => e = .returned (.int .i64 0) ∧ RPur w' base g gs (ss ++ [n]) ∧ Below base w w' ∧ (∀ b t cs, Blk w b t cs → t ≠ 22 → t ≠ 50 → Blk w' b t cs) := by
  obtain ⟨i0, hi, hz0, hz1, hz2⟩ := info_parts info22
  have H := Lib.hid h
  obtain ⟨gv, sv, h1, h2, h3, h4, h5, h6, h7, h8, h9⟩ := h
  have hb := limI_bounds gs h6
  have hb2 := (spentI_take ss h7 ss.length).1
  rw [List.take_length] at hb2
  have c1 : w.cell? ⟨g, 1, none⟩ = some sv := h1.cell 1
  have hgl := h1.lt
  have hH5 := Lib.hid h5
  have hsvg : sv.ownBlock ≠ some g := own_blk_ne h4 h1 (by decide)
  have hgvg : gv.ownBlock ≠ some g := own_blk_ne h3 h1 (by decide)
  have H6 := Lib.hid h6
  have H7 := Lib.hid h7
  clear h6 h7 h5
  go_enter Try.func23, Try.ntmps23
  go_wp2_with fail
  refine (rlimit_any base g gs ss _ H.out).mono ?_
  rintro e w1 ⟨rfl, rfl⟩
  go_wp2_with fail
  refine (rspent_any base g gs ss _ H.out (by omega)).mono ?_
  rintro e w1 ⟨rfl, rfl⟩
  go_wp2_with (at_builtin; refine wpList_append_lies _ rfl _ _ 48 rfl base 22 i0 _ 1 8 Try.underlying48 hi hz0 hz1 hz2 rfl (by decide) sv ss.length _ rfl (h4.alloc _) ⟨w.heap.size, 0, none⟩ 1 1 [.int .u64 n] rfl rfl (World.news_of_block (cs := #[.int .u64 n]) (t := 22) (fr := (0, 0)) (heap_alloc_new w _)) (by simp [Value.oneCell']) (by decide) (by unfold maxLen; omega) (by omega) (by simp; omega) (w.heap.size + 1) (by simp) ?_; intro gg cp w1 hown1 hgrow1 hat1 hlt1; have hB1 : Blk w1 g 50 #[gv, sv] := (h1.alloc _).grown hgrow1 (Ne.symm hsvg); have c1' : w1.cell? ⟨g, 1, none⟩ = some sv := hB1.cell 1; have f1' := hB1.frozen 1; have hlt' := hB1.lt)
  go_ret
  have hgg : gg ≠ g := by
    rcases hat1 with h | h
    · rintro rfl; exact hsvg h
    · omega
  refine ⟨rfl, ⟨gv, .slice (some ⟨gg, 0, none⟩) (ss.length + 1) cp, hB1.set_ 1 _, h2, ?_, ?_, ?_, ?_, ?_, h8, by simp; omega⟩, ?_, ?_⟩
  · refine own_far (own_grown (h3.alloc _) hgrow1 ?_) hgvg _
    rcases hs' : sv.ownBlock with _ | b'
    · exact .inl rfl
    · exact .inr fun e => hH5.out b' e hs'
  · rw [List.length_append, List.map_append]
    exact own_far hown1 (by simpa [Value.ownBlock] using hgg) _
  · intro b hb' e
    have e' : gg = b := by simpa [Value.ownBlock] using e
    subst e'
    rcases hat1 with h | h
    · exact hH5.out _ hb' h
    · have := (h3.lt _ hb').2; omega
  · exact H6.out
  · intro x hx
    rcases List.mem_append.1 hx with h | h
    · exact H7.out x h
    · simp at h; omega
  · exact (((Below.refl base w).alloc hbase _).grown hgrow1 (by simp; omega) (fun k hk => (h4.lt k hk).1)).setCell h2 _
  · intro b t cs hB n1 n2
    exact ((hB.alloc _).grown hgrow1 (Ne.symm (own_blk_ne h4 hB (Ne.symm n1)))).far (hB.ne_ h1 n2) _

end Go.Proofs.Ytljddpgefbcfmaa
