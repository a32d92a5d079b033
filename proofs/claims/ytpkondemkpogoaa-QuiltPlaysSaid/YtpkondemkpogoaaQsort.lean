/-
  Pieces in memory; slices.SortFunc of pieces. No condition.
-/
import Derived.Test.YtpkondemkpogoaaTyp
import Derived.Test.YtpkondemkpogoaaBytes
import Derived.Test.YtpkondemkpogoaaQplain
import Derived.Shelf.SlSortCmp.WholeK
import Derived.Shelf.SlGeneric
namespace Go.Proofs.Ytpkondemkpogoaa
open Go.RowKit Go.Shelf
set_option linter.unusedVariables false
set_option linter.unusedSimpArgs false

def sortP_ren : Go.Shelf.Ren := ⟨fun | 6 => 32 | 15 => 35 | 14 => 34 | 28 => 44 | 29 => 45 | 20 => 36 | 21 => 37 | 22 => 38 | 23 => 39 | 24 => 40 | 25 => 41 | 26 => 42 | 27 => 43 | 46 => 46 | 47 => 47 | 48 => 48 | 49 => 49 | 50 => 50 | 57 => 51 | n => n, fun | 22 => 61 | 24 => 66 | 25 => 68 | 3 => 3 | 39 => 73 | 0 => 0 | 53 => 83 | 55 => 27 | 4 => 4 | 46 => 76 | 45 => 75 | 50 => 80 | 5 => 5 | 9 => 9 | 66 => 85 | 70 => 88 | 76 => 90 | 77 => 91 | n => n, fun | n => n⟩
theorem sortP : Go.Proofs.SlLaysF0.n6 Try.prog sortP_ren := {
  mixed := by kernel_rfl
  f6 := ⟨Try.f32.name, by decide, Try.func32.trans (congrArg some (by kernel_rfl))⟩
  f14 := ⟨Try.f34.name, by decide, Try.func34.trans (congrArg some (by kernel_rfl))⟩
  f15 := Try.func35.trans (congrArg some (by kernel_rfl))
  f20 := ⟨Try.f36.name, by decide, Try.func36.trans (congrArg some (by kernel_rfl))⟩
  f21 := ⟨Try.f37.name, by decide, Try.func37.trans (congrArg some (by kernel_rfl))⟩
  f22 := ⟨Try.f38.name, by decide, Try.func38.trans (congrArg some (by kernel_rfl))⟩
  f23 := ⟨Try.f39.name, by decide, Try.func39.trans (congrArg some (by kernel_rfl))⟩
  f24 := ⟨Try.f40.name, by decide, Try.func40.trans (congrArg some (by kernel_rfl))⟩
  f25 := ⟨Try.f41.name, by decide, Try.func41.trans (congrArg some (by kernel_rfl))⟩
  f26 := ⟨Try.f42.name, by decide, Try.func42.trans (congrArg some (by kernel_rfl))⟩
  f27 := ⟨Try.f43.name, by decide, Try.func43.trans (congrArg some (by kernel_rfl))⟩
  f28 := Try.func44.trans (congrArg some (by kernel_rfl))
  f29 := Try.func45.trans (congrArg some (by kernel_rfl))
  f46 := ⟨Try.f46.name, by decide, Try.func46.trans (congrArg some (by kernel_rfl))⟩
  f47 := Try.func47.trans (congrArg some (by kernel_rfl))
  f48 := Try.func48.trans (congrArg some (by kernel_rfl))
  f49 := ⟨Try.f49.name, by decide, Try.func49.trans (congrArg some (by kernel_rfl))⟩
  f50 := ⟨Try.f50.name, by decide, Try.func50.trans (congrArg some (by kernel_rfl))⟩
  f57 := ⟨Try.f51.name, by decide, Try.func51.trans (congrArg some (by kernel_rfl))⟩
  t0 := Try.underlying0
  a0 := Try.isAgg0
  z0 := Try.sizeOf0
  v0 := Try.zeroValue0
  t3 := Try.underlying3
  a3 := Try.isAgg3
  z3 := Try.sizeOf3
  v3 := Try.zeroValue3
  t4 := Try.underlying4
  a4 := Try.isAgg4
  z4 := Try.sizeOf4
  v4 := Try.zeroValue4
  t5 := Try.underlying5
  a5 := Try.isAgg5
  z5 := Try.sizeOf5
  v5 := Try.zeroValue5
  t9 := Try.underlying9
  a9 := Try.isAgg9
  z9 := Try.sizeOf9
  v9 := Try.zeroValue9
  t22 := Try.underlying61
  a22 := Try.isAgg61
  z22 := Try.sizeOf61
  v22 := Try.zeroValue61
  t25 := Try.underlying68
  a25 := Try.isAgg68
  z25 := Try.sizeOf68
  v25 := Try.zeroValue68
  t39 := Try.underlying73
  a39 := Try.isAgg73
  z39 := Try.sizeOf73
  v39 := Try.zeroValue73
  t45 := Try.underlying75
  a45 := Try.isAgg75
  z45 := Try.sizeOf75
  v45 := Try.zeroValue75
  t46 := Try.underlying76
  a46 := Try.isAgg76
  z46 := Try.sizeOf76
  v46 := Try.zeroValue76
  t50 := Try.underlying80
  a50 := Try.isAgg80
  z50 := Try.sizeOf80
  v50 := Try.zeroValue80
  t53 := Try.underlying83
  a53 := Try.isAgg83
  z53 := Try.sizeOf83
  v53 := Try.zeroValue83
  t55 := Try.underlying27
  a55 := Try.isAgg27
  z55 := Try.sizeOf27
  v55 := Try.zeroValue27
  t66 := Try.underlying85
  a66 := Try.isAgg85
  z66 := Try.sizeOf85
  v66 := Try.zeroValue85
  t70 := Try.underlying88
  a70 := Try.isAgg88
  z70 := Try.sizeOf88
  v70 := Try.zeroValue88
  t76 := Try.underlying90
  a76 := Try.isAgg90
  z76 := Try.sizeOf90
  v76 := Try.zeroValue90
  t77 := Try.underlying91
  a77 := Try.isAgg91
  z77 := Try.sizeOf91
  v77 := Try.zeroValue91 }

/-- A piece, and the slice of its bytes. -/
abbrev PV := Pat × (Option Addr × Nat × Nat)
def pvv (x : PV) : Value := .slice x.2.1 x.2.2.1 x.2.2.2
def encP (x : PV) : List Value := [.int .u64 x.1.1, pvv x]
def pvc (d : List PV) : List Value := d.flatMap encP
theorem pvc_len (d : List PV) : (pvc d).length = d.length * 2 := by
  induction d with
  | nil => rfl
  | cons x r ih =>
    rw [show pvc (x :: r) = encP x ++ pvc r from rfl, List.length_append, ih]
    simp [encP]
    omega
theorem pvc_app (a b : List PV) : pvc (a ++ b) = pvc a ++ pvc b := List.flatMap_append
theorem pvc_one (d : List PV) : ∀ u ∈ pvc d, u.oneCell' = true := by
  intro u hu
  simp only [pvc, List.mem_flatMap, encP, List.mem_cons, List.not_mem_nil, or_false] at hu
  obtain ⟨p, _, rfl | rfl⟩ := hu <;> rfl
theorem pvc_get (d : List PV) : ∀ i (h : i < d.length), (pvc d)[i * 2]? = some (.int .u64 d[i].1.1) ∧ (pvc d)[i * 2 + 1]? = some (pvv d[i]) := by
  induction d with
  | nil => intro i h; simp at h
  | cons x r ih =>
    intro i hi
    rw [show pvc (x :: r) = .int .u64 x.1.1 :: pvv x :: pvc r from rfl]
    cases i with
    | zero => simp
    | succ k =>
      have := ih k (by simpa using hi)
      rw [show (k + 1) * 2 = k * 2 + 2 by omega]
      simpa using this
theorem pvc_flat (d : List PV) : Go.Sort.flatK encP 2 d.toArray = (pvc d).toArray := by
  apply Array.ext
  · simp [pvc_len]
  · intro t h1 h2
    have ht : t < d.length * 2 := by simpa using h1
    have e := Go.Sort.get_flatK encP 2 d.toArray t (by simpa using ht)
    rw [getElem!_pos _ t h1] at e
    rw [e]
    have hd : t / 2 < d.length := by omega
    obtain ⟨g0, g1⟩ := pvc_get d (t / 2) hd
    have hdd : d.toArray[t / 2]! = d[t / 2] := by simp [hd]
    rw [hdd]
    rcases (show t % 2 = 0 ∨ t % 2 = 1 by omega) with hm | hm
    · have e2 : t / 2 * 2 = t := by omega
      rw [e2] at g0
      rw [hm]
      have : (pvc d).toArray[t] = (pvc d)[t]'(by rw [pvc_len]; exact ht) := by simp
      rw [this]
      rw [List.getElem?_eq_getElem (by rw [pvc_len]; exact ht)] at g0
      simp only [Option.some.injEq] at g0
      rw [g0]
      rfl
    · have e2 : t / 2 * 2 + 1 = t := by omega
      rw [e2] at g1
      rw [hm]
      have : (pvc d).toArray[t] = (pvc d)[t]'(by rw [pvc_len]; exact ht) := by simp
      rw [this]
      rw [List.getElem?_eq_getElem (by rw [pvc_len]; exact ht)] at g1
      simp only [Option.some.injEq] at g1
      rw [g1]
      rfl
def cfP (x y : PV) : Int := if x.1.1 < y.1.1 then -1 else 1
theorem ltP (x y : PV) : ltOf cfP x y = decide (x.1.1 < y.1.1) := by
  unfold ltOf cfP
  by_cases h : x.1.1 < y.1.1 <;> simp [h]
theorem swoP : Go.Sort.SWO (ltOf cfP) where
  irrefl x := by rw [ltP]; simp
  trans x y z h1 h2 := by rw [ltP] at *; simp at *; omega
  ntrans x y z h1 h2 := by rw [ltP] at *; simp at *; omega
set_option maxHeartbeats 1000000 in
theorem closureP (x y : PV) (W : World) : Calls Try.prog 33 #[.agg #[.int .u64 x.1.1, pvv x], .agg #[.int .u64 y.1.1, pvv y]] W fun e w' => e = .returned (.int .i64 (cfP x y)) ∧ ∃ q os', w' = Go.Sort.grow (W.drewN q) os' := by
  obtain ⟨⟨a, la⟩, A, n, c⟩ := x
  obtain ⟨⟨b, lb⟩, B, m, k⟩ := y
  have hg : ∀ (o1 o2 : Obj), ∃ q os', (W.alloc o1).alloc o2 = Go.Sort.grow (W.drewN q) os' := fun o1 o2 => ⟨0, _, by rw [Go.Sort.alloc_eq_grow, Go.Sort.alloc_eq_grow, Go.Sort.grow_grow]; rfl⟩
  have HG := Lib.hid hg
  clear hg
  unfold cfP pvv
  by_cases h : a < b
  · rw [if_pos h]
    simp only at h ⊢
    go_enter Try.func33, Try.ntmps33
    go_wp2_with fail
    go_ret
    exact ⟨rfl, HG.out _ _⟩
  · rw [if_neg h]
    simp only at h ⊢
    have h' : decide (a < b) = false := decide_eq_false h
    go_enter Try.func33, Try.ntmps33
    go_wp2_with fail
    go_ret
    exact ⟨rfl, HG.out _ _⟩
theorem mid_holds {w : World} {base g off cap : Nat} {d : List PV} (h : OwnM w base 66 2 (.slice (some ⟨g, off, none⟩) d.length cap) d.length (pvc d)) : Go.Sort.HoldsK encP 2 w g off d.toArray ∧ g < w.heap.size := by
  rcases h.2 with ⟨h1, _⟩ | ⟨g', off', cap', cur, h1, hb, hg, hn, hc, hs, hx⟩
  · simp at h1
  · simp only [Value.slice.injEq, true_and, Option.some.injEq, Addr.mk.injEq, and_true] at h1
    obtain ⟨⟨rfl, rfl⟩, rfl⟩ := h1
    refine ⟨?_, hg.lt⟩
    unfold Go.Sort.HoldsK
    rw [pvc_flat]
    intro j hj
    have hj' : j < d.length * 2 := by simpa [pvc_len] using hj
    refine ⟨?_, hg.frozen _⟩
    rw [hg.cell]
    have e : (pvc d).toArray[j]! = (pvc d)[j]'(by rw [pvc_len]; exact hj') := by simp [pvc_len, hj']
    rw [e]
    have e2 : (pvc d)[j]? = cur[off + j]? := by
      rw [← hx]
      simp [List.getElem?_take, hj']
    rw [← e2, List.getElem?_eq_getElem]
    rfl
theorem mid_sorted {w : World} {base g off cap n m : Nat} {d d' : List PV} {os : Array Obj} (h : OwnM w base 66 2 (.slice (some ⟨g, off, none⟩) n cap) n (pvc d)) (hl : d'.length = n) :
    OwnM (sortWorldK encP 2 w g off m d'.toArray os) base 66 2 (.slice (some ⟨g, off, none⟩) n cap) n (pvc d') ∧ w.grownBy (sortWorldK encP 2 w g off m d'.toArray os) (some g) := by
  have hgr : w.grownBy (sortWorldK encP 2 w g off m d'.toArray os) (some g) := by
    refine ⟨rfl, rfl, rfl, by simp [sortWorldK, Go.Sort.putRowK, Go.Sort.grow, Go.Sort.putRow, Go.Sort.mapBlock, Go.Sort.ahead], fun k hk hne => ?_⟩
    have hne' : g ≠ k := fun e => hne (by rw [e])
    unfold sortWorldK Go.Sort.putRowK
    rw [Go.Sort.heap_grow_old _ _ (by simpa [Go.Sort.putRow, Go.Sort.mapBlock, Go.Sort.ahead] using hk)]
    simp [Go.Sort.putRow, Go.Sort.mapBlock, Go.Sort.ahead, Array.getElem?_modify, hne']
  refine ⟨?_, hgr⟩
  rcases h.2 with ⟨h1, _⟩ | ⟨g', off', cap', cur, h1, hb, hg, hn, hc, hs, hx⟩
  · simp at h1
  · simp only [Value.slice.injEq, true_and, Option.some.injEq, Addr.mk.injEq, and_true] at h1
    obtain ⟨⟨rfl, rfl⟩, rfl⟩ := h1
    have hns : n * 2 ≤ cap * 2 := Nat.mul_le_mul_right _ hn
    refine ⟨by rw [pvc_len, hl], .inr ⟨g, off, cap, Go.Sort.putCells id off (pvc d').toArray cur, rfl, hb, ?_, hn, hc, by simpa [Go.Sort.putCells] using hs, ?_⟩⟩
    · unfold sortWorldK Go.Sort.putRowK Blk
      rw [pvc_flat, Go.Sort.heap_grow_old _ _ (by have := hg.lt; simpa [Go.Sort.putRow, Go.Sort.mapBlock, Go.Sort.ahead] using this)]
      have hg' : w.heap[g]? = some (.cells cur 66 (0, 0)) := hg
      simp [Go.Sort.putRow, Go.Sort.mapBlock, Go.Sort.ahead, Array.getElem?_modify, hg', Go.Sort.onCells]
    · apply List.ext_getElem?
      intro j
      by_cases hj : j < n * 2
      · have hjp : j < (pvc d').length := by rw [pvc_len, hl]; exact hj
        have hjc : off + j < cur.size := by omega
        rw [List.getElem?_take_of_lt hj, List.getElem?_drop, Array.getElem?_toList]
        simp only [Go.Sort.putCells, Array.getElem?_mapIdx, List.size_toArray]
        rw [Array.getElem?_eq_getElem hjc]
        simp only [Option.map_some]
        rw [if_pos ⟨by omega, by omega⟩, show off + j - off = j by omega, List.getElem?_eq_getElem hjp]
        simp [hjp]
      · rw [List.getElem?_take_eq_none (by omega), List.getElem?_eq_none (by rw [pvc_len, hl]; omega)]
theorem perm_of_in {d : List PV} {d' : Array PV} (h : Go.Sort.PermIn 0 d.toArray.size d.toArray d') : d'.toList.Perm d ∧ d'.size = d.length := by
  obtain ⟨h1, _, h3⟩ := h
  have hs : d'.size = d.length := by simpa using h1
  refine ⟨?_, hs⟩
  have e1 : d'.extract 0 d.toArray.size = d' := by
    rw [show d.toArray.size = d'.size by rw [hs]; simp]
    simp
  have e2 : d.toArray.extract 0 d.toArray.size = d.toArray := by simp
  rw [e1, e2] at h3
  simpa using h3
theorem sorted_of_in {n : Nat} {d' : Array PV} (hs : d'.size = n) (h : Go.Sort.SortedIn (ltOf cfP) 0 n d') : d'.toList.Pairwise (fun x y => ¬ y.1.1 < x.1.1) := by
  rw [List.pairwise_iff_getElem]
  intro i j hi hj hij
  have hi' : i < d'.size := by simpa using hi
  have hj' : j < d'.size := by simpa using hj
  have := h i j (Nat.zero_le _) hij (by omega)
  rw [getElem!_pos d' i hi', getElem!_pos d' j hj', ltP] at this
  simpa using this
set_option maxHeartbeats 1000000 in
theorem sort_any (base g off cap : Nat) (d : List PV) (w : World) (h : OwnM w base 66 2 (.slice (some ⟨g, off, none⟩) d.length cap) d.length (pvc d)) (hl : d.length < 4611686018427387904) :
    Calls Try.prog 32 #[.slice (some ⟨g, off, none⟩) d.length cap, .func (.func 33) #[] #[]] w fun e w' => e = .returned (.tuple #[]) ∧ ∃ d' : List PV, d'.Perm d ∧ d'.Pairwise (fun x y => ¬ y.1.1 < x.1.1) ∧
      OwnM w' base 66 2 (.slice (some ⟨g, off, none⟩) d.length cap) d.length (pvc d') ∧ w.grownBy w' (some g) := by
  have eg : ∀ args w, (callFunc 33 args).run Try.prog w = .ok (.enter 33 args) w := enters_of Try.func33 (by kernel_rfl) rfl
  obtain ⟨hH, hgl⟩ := mid_holds h
  have hcon := AnyQ.slices_SortFunc sortP 2 Try.isAgg66 Try.sizeOf66 encP (fun _ => rfl) (fun x v hv => by simp [encP] at hv; rcases hv with rfl | rfl <;> rfl) cfP swoP 33 #[] g off cap d.toArray w eg (fun _ _ _ _ x y => closureP x y _) hH hgl (by simpa using hl)
  change Calls Try.prog 32 _ _ _ at hcon
  refine hcon.mono ?_
  rintro e w' ⟨rfl, d', n, os, hp, hs, rfl⟩
  obtain ⟨p1, p2⟩ := perm_of_in (d := d) (by simpa using hp)
  have hso := sorted_of_in p2 hs
  have hm := mid_sorted (m := n) (os := os) h (d' := d'.toList) (by simpa using p2)
  simp only [Array.toArray_toList] at hm
  exact ⟨rfl, d'.toList, p1, hso, hm.1, hm.2⟩

end Go.Proofs.Ytpkondemkpogoaa
