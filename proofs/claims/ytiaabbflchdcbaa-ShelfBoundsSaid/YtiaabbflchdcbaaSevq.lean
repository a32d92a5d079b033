/-
  Sizes and greatest places behind a Put. No condition.
-/
import Derived.Test.YtiaabbflchdcbaaSsy
namespace Go.Proofs.Ytiaabbflchdcbaa
open Go.RowKit
set_option linter.unusedVariables false
set_option linter.unusedSimpArgs false

def zadd : List (Lot × Int) → Lot → Int → List (Lot × Int)
  | [], x, c => [(x, c)]
  | z :: Z, x, c => if z.1 = x then (x, z.2 + c) :: Z else z :: zadd Z x c
def tget (T : List (List Int × Int × Int)) (t : List Int) : Option (Int × Int) := (T.find? (fun z => decide (z.1 = t))).map (·.2)
def tput : List (List Int × Int × Int) → List Int → Int → Int → List (List Int × Int × Int)
  | [], t, g, n => [(t, g, n)]
  | z :: T, t, g, n => if z.1 = t then (t, g, n) :: T else z :: tput T t g n
def tadd (T : List (List Int × Int × Int)) (t : List Int) (g n : Int) : List (List Int × Int × Int) := match tget T t with
  | none => tput T t g n
  | some (a, b) => if ltP a b g n then tput T t g n else T
theorem zadd_new {Z : List (Lot × Int)} {x : Lot} {c : Int} (h : ∀ z ∈ Z, z.1 ≠ x) : zadd Z x c = Z ++ [(x, c)] := by
  induction Z with
  | nil => rfl
  | cons a A ih => rw [zadd, if_neg (h a (by simp)), ih (fun z hz => h z (by simp [hz]))]; rfl
theorem zadd_old {A B : List (Lot × Int)} {x : Lot} {v c : Int} (h : ∀ z ∈ A, z.1 ≠ x) : zadd (A ++ (x, v) :: B) x c = A ++ (x, v + c) :: B := by
  induction A with
  | nil => simp [zadd]
  | cons a A ih => rw [List.cons_append, zadd, if_neg (h a (by simp)), ih (fun z hz => h z (by simp [hz]))]; rfl
theorem z_split {Z : List (Lot × Int)} {x : Lot} (hnd : (Z.map (·.1)).Nodup) : (∀ z ∈ Z, z.1 ≠ x) ∨ ∃ A v B, Z = A ++ (x, v) :: B ∧ ∀ z ∈ A, z.1 ≠ x := by
  by_cases h : ∀ z ∈ Z, z.1 ≠ x
  · exact .inl h
  · simp only [Classical.not_forall, Classical.not_not] at h
    obtain ⟨z, hz, hx⟩ := h
    obtain ⟨A, B, e⟩ := List.append_of_mem hz
    refine .inr ⟨A, z.2, B, by rw [e, ← hx], fun y hy e2 => ?_⟩
    rw [e, List.map_append, List.map_cons, List.nodup_append] at hnd
    exact hnd.2.2 _ (List.mem_map.2 ⟨y, hy, rfl⟩) _ (by simp) (e2.trans hx.symm)
theorem zget_none {Z : List (Lot × Int)} {x : Lot} (h : ∀ z ∈ Z, z.1 ≠ x) : zget Z x = 0 := by
  induction Z with
  | nil => rfl
  | cons a A ih => rw [zget_cons, if_neg (h a (by simp)), ih (fun z hz => h z (by simp [hz]))]
theorem zget_at {A B : List (Lot × Int)} {x : Lot} {v : Int} (h : ∀ z ∈ A, z.1 ≠ x) : zget (A ++ (x, v) :: B) x = v := by
  induction A with
  | nil => rw [List.nil_append, zget_cons, if_pos rfl]
  | cons a A ih => rw [List.cons_append, zget_cons, if_neg (h a (by simp)), ih (fun z hz => h z (by simp [hz]))]
theorem zadd_fst {Z : List (Lot × Int)} {x : Lot} {c : Int} : (zadd Z x c).map (·.1) = if ∃ z ∈ Z, z.1 = x then Z.map (·.1) else Z.map (·.1) ++ [x] := by
  induction Z with
  | nil => simp [zadd]
  | cons a A ih =>
    rw [zadd]
    by_cases h : a.1 = x
    · rw [if_pos h, if_pos ⟨a, by simp, h⟩]; simp [h]
    · rw [if_neg h, List.map_cons, ih]
      by_cases h2 : ∃ z ∈ A, z.1 = x
      · rw [if_pos h2, if_pos (by obtain ⟨z, hz, e⟩ := h2; exact ⟨z, by simp [hz], e⟩), List.map_cons]
      · rw [if_neg h2, if_neg (by rintro ⟨z, hz, e⟩; exact (List.mem_cons.1 hz).elim (fun e2 => h (by rw [← e2]; exact e)) (fun h3 => h2 ⟨z, h3, e⟩))]; rfl
theorem zadd_fst0 {Z : List (Lot × Int)} {x : Lot} {c : Int} (hp : ∀ z ∈ Z, 16 ≤ z.2) (h : zget Z x = 0) : (zadd Z x c).map (·.1) = Z.map (·.1) ++ [x] := by
  rw [zadd_fst, if_neg]
  rintro ⟨z, hz, e⟩
  have : zget Z x ≠ 0 := by
    clear h
    induction Z with
    | nil => cases hz
    | cons a A ih =>
      rw [zget_cons]
      split
      · have := hp a (by simp); omega
      · next hne => exact ih (fun y hy => hp y (by simp [hy])) ((List.mem_cons.1 hz).elim (fun e2 => absurd (by rw [← e2]; exact e) hne) id)
  exact this h
theorem zadd_fst1 {Z : List (Lot × Int)} {x : Lot} {c : Int} (h : zget Z x ≠ 0) : (zadd Z x c).map (·.1) = Z.map (·.1) := by
  rw [zadd_fst, if_pos]
  refine Classical.byContradiction fun hn => h (zget_none fun z hz e => hn ⟨z, hz, e⟩)
theorem zsum_zadd (Z : List (Lot × Int)) (x : Lot) (c : Int) : zsum (zadd Z x c) = zsum Z + c := by
  induction Z with
  | nil => simp [zadd, zsum]
  | cons a A ih =>
    rw [zadd]
    split
    · rw [zsum_cons, zsum_cons]; simp only; omega
    · rw [zsum_cons, zsum_cons, ih]; omega
theorem zadd_mem {Z : List (Lot × Int)} {x : Lot} {c : Int} {y : Lot × Int} (h : y ∈ zadd Z x c) : y ∈ Z ∨ y = (x, c) ∨ ∃ v, (x, v) ∈ Z ∧ y = (x, v + c) := by
  induction Z with
  | nil => simp [zadd] at h; exact .inr (.inl h)
  | cons a A ih =>
    rw [zadd] at h
    split at h
    · next e =>
      rcases List.mem_cons.1 h with rfl | h
      · exact .inr (.inr ⟨a.2, by rw [← e]; simp, rfl⟩)
      · exact .inl (by simp [h])
    · rcases List.mem_cons.1 h with rfl | h
      · exact .inl (by simp)
      · rcases ih h with h | h | ⟨v, h1, h2⟩
        · exact .inl (by simp [h])
        · exact .inr (.inl h)
        · exact .inr (.inr ⟨v, by simp [h1], h2⟩)
theorem zget_zadd (Z : List (Lot × Int)) (x y : Lot) (c : Int) : zget (zadd Z x c) y = zget Z y + if y = x then c else 0 := by
  induction Z with
  | nil => rw [zadd, zget_cons]; by_cases h : x = y
           · subst h; simp [zget]
           · rw [if_neg h, if_neg (Ne.symm h)]; simp [zget]
  | cons a A ih =>
    rw [zadd]
    by_cases h : a.1 = x
    · rw [if_pos h, zget_cons, zget_cons]
      by_cases h2 : x = y
      · subst h2; simp [h]
      · simp only [if_neg h2, h, if_neg (Ne.symm h2)]; omega
    · rw [if_neg h, zget_cons, zget_cons, ih]
      by_cases h2 : a.1 = y
      · rw [if_pos h2, if_pos h2, if_neg (by rintro rfl; exact h h2)]; omega
      · rw [if_neg h2, if_neg h2]
theorem evict_mem {x : Lot} {c room : Int} {y : En × Value} : ∀ (k : Nat) (s : St), y ∈ (evict x c room k s).E → y ∈ s.E
  | 0, s, h => h
  | k + 1, s, h => by
    rw [evict] at h
    split at h
    · exact h
    · have h1 := evict_mem k _ h
      unfold drop1 at h1
      split at h1
      · exact h1
      · exact (List.mem_filter.1 h1).1
theorem evict_ok {x : Lot} {c room : Int} : ∀ (k : Nat) (s : St), s.Ok → (evict x c room k s).Ok
  | 0, s, h => h
  | k + 1, s, h => by
    rw [evict]
    split
    · exact h
    · exact evict_ok k _ (drop1_ok h)
/-- 'm[x] += c': the entry, then the store. -/
theorem KM.zentry {w : World} {zb : Nat} {Z : List (Lot × Int)} {x : Lot} (h : KM Try.prog 84 w zb (Z.map zkv)) (hz : ∀ z ∈ Z, LotOk z.1) (hx : LotOk x) (hnd : (Z.map (·.1)).Nodup) (c : Int) :
    ∃ (st : Int) (w' : World) (Z1 : List (Value × Value)), (Instr.mapEntry 77 (.map (some zb)) (.agg (lotC x.1 x.2))).run Try.prog w = .ok (.tuple #[.int .i64 (zget Z x), .int .i64 st]) w' ∧ KM Try.prog 84 w' zb Z1 ∧ w.grownBy w' (some zb) ∧ w'.heap.size = w.heap.size ∧ (Instr.lookup 77 (.map (some zb)) (.agg (lotC x.1 x.2)) false).run Try.prog w' = .ok (.int .i64 (zget Z x)) w' ∧
      ∀ W, W.heap[zb]? = w'.heap[zb]? → ∃ W', (Instr.entryStore 77 (.map (some zb)) (.int .i64 st) (.int .i64 (zget Z x + c))).run Try.prog W = .ok () W' ∧ KM Try.prog 84 W' zb ((zadd Z x c).map zkv) ∧ W.grownBy W' (some zb) ∧ W'.heap.size = W.heap.size := by
  rcases z_split (x := x) hnd with hn | ⟨A, v, B, rfl, hA⟩
  · obtain ⟨st, w', h1, h2, h3, h4, h5⟩ := h.entry_new law84 (t := 77) Try.underlying77 (int_zero w) (key := .agg (lotC x.1 x.2)) (ok_lot hx.1 hx.2) (fun y hy e => by
      obtain ⟨z, hzm, rfl⟩ := List.mem_map.1 hy
      have h3 := lot_inj (hz z hzm).1 hx.1 (by injection e)
      exact hn z hzm (Prod.ext h3.1 h3.2)) (.int .i64 (zget Z x + c))
    refine ⟨st, w', _, by rw [zget_none hn]; exact h1, h2, h3, h4, by simpa [zget_none hn] using h2.look_yes law84 (t := 77) Try.underlying77 (key := .agg (lotC x.1 x.2)) (v := .int .i64 0) (by simp) false, fun W hW => ?_⟩
    obtain ⟨W', k1, k2, k3, k4⟩ := h5 W hW
    refine ⟨W', k1, ?_, k3, k4⟩
    rw [zadd_new hn, List.map_append]
    rw [zget_none hn, Int.zero_add] at k2
    exact k2
  · rw [List.map_append, List.map_cons] at h
    obtain ⟨st, w', h1, h2, h3, h4, h5⟩ := KM.entry_old (key := .agg (lotC x.1 x.2)) (v0 := .int .i64 v) h law84 (t := 77) Try.underlying77 (.int .i64 (zget (A ++ (x, v) :: B) x + c))
    refine ⟨st, w', _, by rw [zget_at hA]; exact h1, h2, h3, h4, by simpa [zget_at hA] using h2.look_yes law84 (t := 77) Try.underlying77 (key := .agg (lotC x.1 x.2)) (v := .int .i64 v) (by simp) false, fun W hW => ?_⟩
    obtain ⟨W', k1, k2, k3, k4⟩ := h5 W hW
    refine ⟨W', k1, ?_, k3, k4⟩
    rw [zadd_old hA, List.map_append, List.map_cons]
    rw [zget_at hA] at k2
    exact k2
theorem tput_new {T : List (List Int × Int × Int)} {t : List Int} {g n : Int} (h : ∀ z ∈ T, z.1 ≠ t) : tput T t g n = T ++ [(t, g, n)] := by
  induction T with
  | nil => rfl
  | cons a A ih => rw [tput, if_neg (h a (by simp)), ih (fun z hz => h z (by simp [hz]))]; rfl
theorem tput_old {A B : List (List Int × Int × Int)} {t : List Int} {v : Int × Int} {g n : Int} (h : ∀ z ∈ A, z.1 ≠ t) : tput (A ++ (t, v) :: B) t g n = A ++ (t, g, n) :: B := by
  induction A with
  | nil => simp [tput]
  | cons a A ih => rw [List.cons_append, tput, if_neg (h a (by simp)), ih (fun z hz => h z (by simp [hz]))]; rfl
theorem KM.tnd {w : World} {tb : Nat} {T : List (List Int × Int × Int)} (h : KM Try.prog 82 w tb (T.map tkv)) : (T.map (·.1)).Nodup := by
  have h1 := h.apart
  rw [List.map_map, List.Nodup, List.pairwise_map] at h1
  rw [List.Nodup, List.pairwise_map]
  exact h1.imp (fun {a b} hne e => hne (by show Value.agg (trkC a.1) = Value.agg (trkC b.1); rw [show a.1 = b.1 from e]))
theorem t_split {T : List (List Int × Int × Int)} {x : List Int} (hnd : (T.map (·.1)).Nodup) : (∀ z ∈ T, z.1 ≠ x) ∨ ∃ A v B, T = A ++ (x, v) :: B ∧ ∀ z ∈ A, z.1 ≠ x := by
  by_cases h : ∀ z ∈ T, z.1 ≠ x
  · exact .inl h
  · simp only [Classical.not_forall, Classical.not_not] at h
    obtain ⟨z, hz, hx⟩ := h
    obtain ⟨A, B, e⟩ := List.append_of_mem hz
    refine .inr ⟨A, z.2, B, by rw [e, ← hx], fun y hy e2 => ?_⟩
    rw [e, List.map_append, List.map_cons, List.nodup_append] at hnd
    exact hnd.2.2 _ (List.mem_map.2 ⟨y, hy, rfl⟩) _ (by simp) (e2.trans hx.symm)
theorem tget_none {T : List (List Int × Int × Int)} {x : List Int} (h : ∀ z ∈ T, z.1 ≠ x) : tget T x = none := by
  unfold tget
  rw [List.find?_eq_none.2 (fun z hz => by simpa using h z hz)]
  rfl
theorem tget_at {A B : List (List Int × Int × Int)} {x : List Int} {v : Int × Int} (h : ∀ z ∈ A, z.1 ≠ x) : tget (A ++ (x, v) :: B) x = some v := by
  induction A with
  | nil => simp [tget]
  | cons a A ih =>
    have h1 := h a (by simp)
    have := ih (fun z hz => h z (by simp [hz]))
    unfold tget at this ⊢
    rw [List.cons_append, List.find?_cons]
    simpa [h1] using this
theorem place_zero2 (w : World) : (zeroValue 33).run Try.prog w = .ok (.agg #[.int .u64 0, .int .u64 0]) w := by kernel_rfl
/-- What a look-up of a track's greatest place brings. -/
def tval (o : Option (Int × Int)) : Value := match o with
  | none => .tuple #[.agg #[.int .u64 0, .int .u64 0], .bool false]
  | some v => .tuple #[.agg #[.int .u64 v.1, .int .u64 v.2], .bool true]
theorem KM.tlook {w : World} {tb : Nat} {T : List (List Int × Int × Int)} {x : List Int} (h : KM Try.prog 82 w tb (T.map tkv)) (hx : T32 x) :
    (Instr.lookup 78 (.map (some tb)) (.agg (trkC x)) true).run Try.prog w = .ok (tval (tget T x)) w := by
  rcases t_split (x := x) h.tnd with hn | ⟨A, v, B, rfl, hA⟩
  · have := h.look_no law82 (t := 78) Try.underlying78 (place_zero2 w) (key := .agg (trkC x)) (ok_trk hx) (fun y hy e => by
      obtain ⟨z, hzm, rfl⟩ := List.mem_map.1 hy
      exact hn z hzm (trk_inj (by injection e))) true
    rw [tget_none hn]
    simp only [if_true] at this
    exact this
  · have := h.look_yes law82 (t := 78) Try.underlying78 (key := .agg (trkC x)) (v := .agg #[.int .u64 v.1, .int .u64 v.2]) (List.mem_map.2 ⟨(x, v), by simp, rfl⟩) true
    rw [tget_at hA]
    simp only [if_true] at this
    exact this
theorem KM.tset {w : World} {tb : Nat} {T : List (List Int × Int × Int)} {x : List Int} (h : KM Try.prog 82 w tb (T.map tkv)) (hx : T32 x) (g n : Int) :
    ∃ w', (Instr.mapUpdate 78 (.map (some tb)) (.agg (trkC x)) (.agg #[.int .u64 g, .int .u64 n])).run Try.prog w = .ok () w' ∧ KM Try.prog 82 w' tb ((tput T x g n).map tkv) ∧ w.grownBy w' (some tb) ∧ w'.heap.size = w.heap.size := by
  rcases t_split (x := x) h.tnd with hn | ⟨A, v, B, rfl, hA⟩
  · obtain ⟨w', h1, h2, h3, h4⟩ := h.put_new law82 (t := 78) Try.underlying78 (key := .agg (trkC x)) (ok_trk hx) (fun y hy e => by
      obtain ⟨z, hzm, rfl⟩ := List.mem_map.1 hy
      exact hn z hzm (trk_inj (by injection e))) (.agg #[.int .u64 g, .int .u64 n])
    exact ⟨w', h1, by rw [tput_new hn, List.map_append]; exact h2, h3, h4⟩
  · rw [List.map_append, List.map_cons] at h
    obtain ⟨w', h1, h2, h3, h4⟩ := KM.put_old (key := .agg (trkC x)) (v0 := .agg #[.int .u64 v.1, .int .u64 v.2]) h law82 (t := 78) Try.underlying78 (.agg #[.int .u64 g, .int .u64 n])
    exact ⟨w', h1, by rw [tput_old hA, List.map_append, List.map_cons]; exact h2, h3, h4⟩
theorem KM.tlook2 {w : World} {tb : Nat} {T : List (List Int × Int × Int)} {x : List Int} (h : KM Try.prog 82 w tb (T.map tkv)) (hx : T32 x) :
    ∃ (a b : Int) (f : Bool), (∀ W, KM Try.prog 82 W tb (T.map tkv) → (Instr.lookup 78 (.map (some tb)) (.agg (trkC x)) true).run Try.prog W = .ok (.tuple #[.agg #[.int .u64 a, .int .u64 b], .bool f]) W) ∧ ((f = false ∧ tget T x = none) ∨ (f = true ∧ tget T x = some (a, b))) := by
  cases e : tget T x with
  | none => exact ⟨0, 0, false, fun W hW => by rw [hW.tlook hx, e]; rfl, .inl ⟨rfl, rfl⟩⟩
  | some v => exact ⟨v.1, v.2, true, fun W hW => by rw [hW.tlook hx, e]; rfl, .inr ⟨rfl, rfl⟩⟩
theorem tadd_none {T : List (List Int × Int × Int)} {t : List Int} {g n : Int} (h : tget T t = none) : tadd T t g n = tput T t g n := by unfold tadd; rw [h]
theorem tadd_lt {T : List (List Int × Int × Int)} {t : List Int} {g n a b : Int} (h : tget T t = some (a, b)) (hl : ltP a b g n = true) : tadd T t g n = tput T t g n := by unfold tadd; rw [h]; simp [hl]
theorem tadd_ge {T : List (List Int × Int × Int)} {t : List Int} {g n a b : Int} (h : tget T t = some (a, b)) (hl : ltP a b g n = false) : tadd T t g n = T := by unfold tadd; rw [h]; simp [hl]
section
variable {S : Nat → Prop} {w w' : World} {v : Value} {l : List Int} {B sb lb zb tb : Nat} {lv : Value} {room used : Int} {E : List (En × Value)} {ZL : List Lot} {Z : List (Lot × Int)} {T : List (List Int × Int × Int)}
theorem RdT.kb (h : RdT w v l) (k : KB S w w') (hr : ∀ b, v.ownBlock = some b → ¬ S b) : RdT w' v l := by
  have hT : Typ w' v := fun a n c e => by
    obtain ⟨h0, cs, h1, h2⟩ := h.2 a n c e
    exact ⟨h0, cs, h1.kb k (hr _ (by rw [e]; rfl)), h2⟩
  obtain ⟨⟨A, cap, rfl, h1, h2, h3, h4⟩, _⟩ := h
  refine ⟨⟨A, cap, rfl, h1, h2, h3, fun k' hk => ?_⟩, hT⟩
  obtain ⟨b, off, rfl, hl, hc⟩ := h4 k' hk
  refine ⟨b, off, rfl, Nat.lt_of_lt_of_le hl k.sz, fun j hj => ?_⟩
  have := k.2.2.2.2 b hl (hr b rfl)
  rw [← hc j hj]
  simp only [World.cell?, this]
/-- A block of another kind is none of the shelf's. -/
theorem SX.ns (h : SX w B sb lb zb tb lv room used E Z T) {k : Nat} {t : TypeId} {cs : Array Value} (hg : Blk w k t cs) (h1 : t ≠ 81) (h2 : t ≠ 84) : ¬ (k = sb ∨ k = lb ∨ k = zb ∨ k = tb ∨ lv.ownBlock = some k) := by
  rintro (e | e | e | e | e)
  · exact hg.ne_ h.blk h1 e
  · exact blk_km_ne hg h.kl e
  · exact blk_km_ne hg h.kz e
  · exact blk_km_ne hg h.kt e
  · exact own_blk_ne h.lr hg (Ne.symm h2) e
theorem SX.nsd (h : SX w B sb lb zb tb lv room used E Z T) (hd : RdT w v l) : ∀ b, v.ownBlock = some b → ¬ (b = sb ∨ b = lb ∨ b = zb ∨ b = tb ∨ lv.ownBlock = some b) := by
  intro b hb
  rcases hd.shape with ⟨cap, rfl, _⟩ | ⟨b', off, cap, cs, rfl, k1, _⟩
  · simp [Value.ownBlock] at hb
  · simp only [Value.ownBlock, Option.some.injEq] at hb
    subst hb
    exact h.ns k1 (by decide) (by decide)
/-- A block of another kind is set. -/
theorem SY.far (h : SY w B sb lb zb tb lv room used E ZL Z T) {k : Nat} {t : TypeId} {cs : Array Value} (hg : Blk w k t cs) (h1 : t ≠ 81) (h2 : t ≠ 84) (h3 : t ≠ 5) (i : Nat) (u : Value) : SY (w.setCell ⟨k, i, none⟩ u) B sb lb zb tb lv room used E ZL Z T :=
  { h with blk := h.blk.far (Ne.symm (hg.ne_ h.blk h1)) u, kl := h.kl.set_ hg i u, lr := own_far h.lr (own_blk_ne h.lr hg (Ne.symm h2)) u, kz := h.kz.set_ hg i u, kt := h.kt.set_ hg i u, dat := fun x hx => rdt_set (h.dat x hx) hg h3 i u }
end
theorem tput_ok {T : List (List Int × Int × Int)} {x : List Int} {g n : Int} (ht : ∀ z ∈ T, T32 z.1) (hx : T32 x) : ∀ z ∈ tput T x g n, T32 z.1 := by
  induction T with
  | nil => intro z hz; simp [tput] at hz; subst hz; exact hx
  | cons a A ih =>
    intro z hz
    rw [tput] at hz
    split at hz
    · rcases List.mem_cons.1 hz with rfl | hz
      · exact hx
      · exact ht z (by simp [hz])
    · rcases List.mem_cons.1 hz with rfl | hz
      · exact ht _ (by simp)
      · exact ih (fun y hy => ht y (by simp [hy])) z hz

end Go.Proofs.Ytiaabbflchdcbaa
