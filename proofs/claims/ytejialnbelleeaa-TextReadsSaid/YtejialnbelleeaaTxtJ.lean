/-
  Package text: the words with which a text goes on.
-/
import Derived.Test.YtejialnbelleeaaTxtI
import Derived.Test.YtejialnbelleeaaSetB
import Derived.RangeFuncNested
import Derived.RangeFuncBound
import Derived.RangeFuncCalls
import Derived.RangeFuncLeaves
import Derived.Shelf.Abstract
import Derived.Shelf.RegionOpen
import Derived.OwnWalkIn
import Derived.TacticsInMore
import Derived.LoopNIn
import Derived.LoopIn
namespace Go.Proofs.Ytejialnbelleeaa
open Go Go.RowKit Go.Shelf
attribute [local go_sem] Oper.semAt_some

/-- Does a text begin with a word? -/
def begB (s w : ByteArray) : Bool := decide (w.size ≤ s.size) && ((s.extract 0 w.size).toList == w.toList)

theorem lite_any (s t : ByteArray) (w : World) :
    Calls Try.prog 64 #[.string s, .string t] w fun e w' => e = .returned (.bool (begB s t)) ∧ w = w' := by
  by_cases h : t.size ≤ s.size
  · have hv : begB s t = ((s.extract 0 t.size).toList == t.toList) := by unfold begB; simp [h]
    rw [hv]
    clear hv
    go_enter Try.func64, Try.ntmps64
    go_wp2
    go_ret
    exact ⟨rfl, rfl⟩
  · have hv : begB s t = false := by unfold begB; simp [h]
    rw [hv]
    clear hv
    go_enter Try.func64, Try.ntmps64
    go_wp2
    go_ret
    exact ⟨rfl, rfl⟩
theorem prefix_any (s t : ByteArray) (w : World) :
    Calls Try.prog 58 #[.string s, .string t] w fun e w' => e = .returned (.bool (begB s t)) ∧ Below w.heap.size w w' := by
  go_enter Try.func58, Try.ntmps58
  go_wp2_with fail
  refine (lite_any s t _).mono ?_
  rintro e w' ⟨rfl, rfl⟩
  go_wp2
  go_ret
  exact ⟨rfl, Below.refl _ _⟩

abbrev strL (s : ByteArray) : List Value := [.string s]
abbrev StrsAt := SlAt 1 strL

/-- A word that was met: its number, and it. -/
abbrev Met := { x : Nat × ByteArray // x.1 ≤ 140737488351233 ∧ x.2.size ≤ 140737488351232 }
/-- The words, from the i-th on, with which the text goes on at p. -/
def mets (s : ByteArray) (p : Nat) : Nat → List ByteArray → List Met
  | _, [] => []
  | i, t :: ts => if h : (t.toList.isEmpty = false ∧ begB (s.extract p s.size) t = true) ∧ i + 1 ≤ 140737488351233 ∧ t.size ≤ 140737488351232 then ⟨(i + 1, t), h.2⟩ :: mets s p (i + 1) ts else mets s p (i + 1) ts
theorem mets_length (s : ByteArray) (p : Nat) : ∀ i ts, (mets s p i ts).length ≤ ts.length
  | _, [] => Nat.le_refl _
  | i, t :: ts => by
    have := mets_length s p (i + 1) ts
    unfold mets
    split
    · simp; omega
    · simp; omega

theorem met_any (g : Nat) (v : Value) (w : World) (hv : ∃ A n c, v = .slice A n c) :
    Calls Try.prog 34 #[.pointer (some ⟨g, 0, none⟩), v] w fun e w' => e = .returned (.func (.func 57) #[] #[.pointer (some ⟨w.heap.size + 1, 0, none⟩), .pointer (some ⟨w.heap.size, 0, none⟩)]) ∧
      w' = (w.alloc (.cells #[.pointer (some ⟨g, 0, none⟩)] 29 (0, 0))).alloc (.cells #[v] 22 (0, 0)) := by
  have hmf : ∀ (fn : Fn) (first cap : Array Value) (w : World), (Instr.makeFunc fn first cap).run Try.prog w = .ok (.func fn first cap) w := fun _ _ _ _ => rfl
  obtain ⟨A, n, c, rfl⟩ := hv
  go_enter Try.func34, Try.ntmps34
  go_wp2
  go_ret
  exact ⟨rfl, rfl⟩

theorem below_grown {w w' : World} (h : Below w.heap.size w w') : w.grownBy w' none := ⟨h.os, h.tape, h.output, h.size, fun k hk _ => h.block k hk⟩

set_option maxRecDepth 100000 in
set_option maxHeartbeats 8000000 in
theorem met1_stops (g p bx bw : Nat) (s : ByteArray) (l0 : List ByteArray) (A : Option Addr) (c : Nat) (n₀ n : Nat) (hn : 1 ≤ n) (w : World) (hr : RdAt w g s p 0) (hp : p ≤ s.size) (hbx : w.heap[bx]? = some (.cells #[.pointer (some ⟨g, 0, none⟩)] 29 (0, 0)))
    (hbw : w.heap[bw]? = some (.cells #[.slice A l0.length c] 22 (0, 0))) (hv : StrsAt w (.slice A l0.length c) l0) (hl : ∀ t ∈ l0, t.size ≤ 140737488351232) (hn0 : n₀ = w.heap.size) :
    SeqStopsK Fence.wide n Try.prog 57 #[.pointer (some ⟨bw, 0, none⟩), .pointer (some ⟨bx, 0, none⟩)] (fun x : Met => #[.int .i64 (x.val.1 : Int), .string x.val.2]) (Below n₀) (fun xs => xs = mets s p 0 l0) (fun pre => pre <+: mets s p 0 l0) 140737488351232 w := fun l J Jx W hW hJ hJx hY h0 => by
  subst hn0
  have hbwW : W.heap[bw]? = some (.cells #[.slice A l0.length c] 22 (0, 0)) := by rw [hW.block bw (lt_of_block hbw)]; exact hbw
  have y0 : W.cell? ⟨bw, 0, none⟩ = some (.slice A l0.length c) := blk_cell hbwW 0
  obtain ⟨_, _, he, ⟨_, hmax⟩, hcells⟩ := hv
  injection he with e1 e2 e3
  subst e1 e3
  clear e2
  refine callsIn_of_wp Try.func57 rfl trivial ?_ rfl
  simp only [Try.ntmps57, List.size_toArray, List.length_cons, List.length_nil, Nat.reduceAdd, Nat.reduceSub, Array.replicate_succ, Array.replicate_zero, List.push_toArray, List.append_toArray, List.nil_append, List.cons_append]
  gi_wp2
  refine (wpIn_wide (n := n)).2 (wp_scope_straight ((wpIn_wide (n := n)).1 ?_))
  gi_wp2
  refine wpIn_label ?_
  gi_wp2
  clear y0
  gi_loopw [8] (fun vi wr => ∃ (k : Nat) (pre : List Met), k ≤ l0.length ∧ pre.length ≤ k ∧ vi = .int .i64 (k : Int) ∧ pre ++ mets s p k (l0.drop k) = mets s p 0 l0 ∧ J pre wr ∧ Below w.heap.size w wr) (fun vi _ => l0.length - (intOf vi).toNat)
  case atStart => exact ⟨0, [], Nat.zero_le _, Nat.le_refl _, rfl, rfl, h0, hW⟩
  case round =>
    obtain ⟨k, pre, hk, hpk, rfl, hpre, hj, hb⟩ := hrel
    have hxx : Ext G0 w wr := Ext.of_below hb G0
    by_cases hlt : k < l0.length
    · rcases hcells with h | ⟨b, off, rfl, hcell⟩
      · rw [h] at hlt; simp at hlt
      have e0 : wr.cell? ⟨b, off + k, none⟩ = some (.string l0[k]) := by
        have := hcell k l0[k] (by simp [hlt]) 0 _ rfl
        rw [Nat.mul_one] at this
        exact cell_ext hxx this
      have hr2 := hr.ext hxx (fun x => x)
      have hbx2 := ext_heap hxx hbx (fun x => x)
      have hls := hl _ (List.getElem_mem hlt)
      have i1 : (0 : Int) ≤ (p : Int) := by omega
      have i2 : (p : Int) ≤ (s.size : Int) := by omega
      have hml : pre.length < 140737488351232 := by omega
      have hm1 : mets s p k (l0.drop k) = if h : (l0[k].toList.isEmpty = false ∧ begB (s.extract p s.size) l0[k] = true) ∧ k + 1 ≤ 140737488351233 ∧ l0[k].size ≤ 140737488351232 then ⟨(k + 1, l0[k]), h.2⟩ :: mets s p (k + 1) (l0.drop (k + 1)) else mets s p (k + 1) (l0.drop (k + 1)) := by
        rw [List.drop_eq_getElem_cons hlt]; rfl
      have hP := fun w => prefix_any (s.extract p s.size) l0[k] w
      clear hcell
      generalize l0[k] = t at *
      by_cases hte : t.toList.isEmpty = true
      · have hm2 : mets s p k (l0.drop k) = mets s p (k + 1) (l0.drop (k + 1)) := by rw [hm1, dif_neg (by rintro ⟨⟨h, _⟩, _⟩; rw [hte] at h; cases h)]
        have HM := Lib.hid hm2
        have te2 : t.toList = [] := List.isEmpty_iff.1 hte
        clear hm1 hm2 hP
        gi_wp2
        apply region_phiIn (leaves := (Leaf.val _) :: (Leaf.val _) :: (Leaf.val _) :: (Leaf.val _) :: (Leaf.val _) :: (Leaf.val _) :: (Leaf.val _) :: (Leaf.val _) :: (Leaf.val _) :: (Leaf.val _) :: (Leaf.val _) :: (Leaf.val _) :: (Leaf.val _) :: (Leaf.val _) :: (Leaf.val _) :: (Leaf.val _) :: (Leaf.val _) :: (Leaf.val _) :: (Leaf.val _) :: (Leaf.val _) :: (Leaf.val _) :: (Leaf.val _) :: ([] : List Leaf)) (k := 22) (b := #[0, 1, 3, 7, 15, 31, 63, 127, 7, 263, 775, 1799, 3847, 8191, 7, 32767, 65535, 131071, 262143, 262143, 786431, 262143, 4194303, 8388607, 16777215]) (ms := []) (E := Ext G0) mixed (by kernel_rfl) rfl (by kernel_rfl) rfl
        apply owed_walk rfl
        · intro w1 hw hf
          obtain ⟨r0, r1, r2⟩ := (hr2.ext hw.ofDrew (fun x => x)).cells
          have x0 : w1.cell? ⟨bx, 0, none⟩ = some (.pointer (some ⟨g, 0, none⟩)) := blk_cell (ext_heapD hw hbx2 (fun x => x)) 0
          go_wp2
          exact ⟨rfl, rfl, Ext.refl _ _⟩
        · simp
        · go_simp
          try rfl
        apply owed_walk rfl
        · intro w1 hw hf
          obtain ⟨r0, r1, r2⟩ := (hr2.ext hw.ofDrew (fun x => x)).cells
          have x0 : w1.cell? ⟨bx, 0, none⟩ = some (.pointer (some ⟨g, 0, none⟩)) := blk_cell (ext_heapD hw hbx2 (fun x => x)) 0
          go_wp2
          exact ⟨rfl, rfl, Ext.refl _ _⟩
        · simp
        · go_simp
          try rfl
        apply owed_walk rfl
        · intro w1 hw hf
          obtain ⟨r0, r1, r2⟩ := (hr2.ext hw.ofDrew (fun x => x)).cells
          have x0 : w1.cell? ⟨bx, 0, none⟩ = some (.pointer (some ⟨g, 0, none⟩)) := blk_cell (ext_heapD hw hbx2 (fun x => x)) 0
          go_wp2
          exact ⟨rfl, rfl, Ext.refl _ _⟩
        · simp
        · go_simp
          try rfl
        apply owed_walk rfl
        · intro w1 hw hf
          obtain ⟨r0, r1, r2⟩ := (hr2.ext hw.ofDrew (fun x => x)).cells
          have x0 : w1.cell? ⟨bx, 0, none⟩ = some (.pointer (some ⟨g, 0, none⟩)) := blk_cell (ext_heapD hw hbx2 (fun x => x)) 0
          go_wp2
          exact ⟨rfl, rfl, Ext.refl _ _⟩
        · simp
        · go_simp
          try rfl
        apply owed_walk rfl
        · intro w1 hw hf
          obtain ⟨r0, r1, r2⟩ := (hr2.ext hw.ofDrew (fun x => x)).cells
          have x0 : w1.cell? ⟨bx, 0, none⟩ = some (.pointer (some ⟨g, 0, none⟩)) := blk_cell (ext_heapD hw hbx2 (fun x => x)) 0
          go_wp2
          exact ⟨rfl, rfl, Ext.refl _ _⟩
        · simp
        · go_simp
          try rfl
        apply owed_walk rfl
        · intro w1 hw hf
          obtain ⟨r0, r1, r2⟩ := (hr2.ext hw.ofDrew (fun x => x)).cells
          have x0 : w1.cell? ⟨bx, 0, none⟩ = some (.pointer (some ⟨g, 0, none⟩)) := blk_cell (ext_heapD hw hbx2 (fun x => x)) 0
          go_wp2
          exact ⟨rfl, rfl, Ext.refl _ _⟩
        · simp
        · go_simp
          try rfl
        apply owed_walk rfl
        · intro w1 hw hf
          obtain ⟨r0, r1, r2⟩ := (hr2.ext hw.ofDrew (fun x => x)).cells
          have x0 : w1.cell? ⟨bx, 0, none⟩ = some (.pointer (some ⟨g, 0, none⟩)) := blk_cell (ext_heapD hw hbx2 (fun x => x)) 0
          go_wp2
          exact ⟨rfl, rfl, Ext.refl _ _⟩
        · simp
        · go_simp
          try rfl
        apply owed_walk rfl
        · intro w1 hw hf
          obtain ⟨r0, r1, r2⟩ := (hr2.ext hw.ofDrew (fun x => x)).cells
          have x0 : w1.cell? ⟨bx, 0, none⟩ = some (.pointer (some ⟨g, 0, none⟩)) := blk_cell (ext_heapD hw hbx2 (fun x => x)) 0
          go_wp2
          exact ⟨rfl, rfl, Ext.refl _ _⟩
        · simp
        · go_simp
          try rfl
        apply owed_walk rfl
        · intro w1 hw hf
          obtain ⟨r0, r1, r2⟩ := (hr2.ext hw.ofDrew (fun x => x)).cells
          have x0 : w1.cell? ⟨bx, 0, none⟩ = some (.pointer (some ⟨g, 0, none⟩)) := blk_cell (ext_heapD hw hbx2 (fun x => x)) 0
          go_wp2
          exact ⟨rfl, rfl, Ext.refl _ _⟩
        · simp
        · go_simp
          try rfl
        apply owed_walk rfl
        · intro w1 hw hf
          obtain ⟨r0, r1, r2⟩ := (hr2.ext hw.ofDrew (fun x => x)).cells
          have x0 : w1.cell? ⟨bx, 0, none⟩ = some (.pointer (some ⟨g, 0, none⟩)) := blk_cell (ext_heapD hw hbx2 (fun x => x)) 0
          go_wp2
          exact ⟨rfl, rfl, Ext.refl _ _⟩
        · simp
        · go_simp
          try rfl
        apply owed_walk rfl
        · intro w1 hw hf
          obtain ⟨r0, r1, r2⟩ := (hr2.ext hw.ofDrew (fun x => x)).cells
          have x0 : w1.cell? ⟨bx, 0, none⟩ = some (.pointer (some ⟨g, 0, none⟩)) := blk_cell (ext_heapD hw hbx2 (fun x => x)) 0
          go_wp2
          exact ⟨rfl, rfl, Ext.refl _ _⟩
        · simp
        · go_simp
          try rfl
        apply owed_walk rfl
        · intro w1 hw hf
          obtain ⟨r0, r1, r2⟩ := (hr2.ext hw.ofDrew (fun x => x)).cells
          have x0 : w1.cell? ⟨bx, 0, none⟩ = some (.pointer (some ⟨g, 0, none⟩)) := blk_cell (ext_heapD hw hbx2 (fun x => x)) 0
          go_wp2
          exact ⟨rfl, rfl, Ext.refl _ _⟩
        · simp
        · go_simp
          try rfl
        apply owed_walk rfl
        · intro w1 hw hf
          obtain ⟨r0, r1, r2⟩ := (hr2.ext hw.ofDrew (fun x => x)).cells
          have x0 : w1.cell? ⟨bx, 0, none⟩ = some (.pointer (some ⟨g, 0, none⟩)) := blk_cell (ext_heapD hw hbx2 (fun x => x)) 0
          go_wp2
          exact ⟨rfl, rfl, Ext.refl _ _⟩
        · simp
        · go_simp
          try rfl
        apply owed_walk rfl
        · intro w1 hw hf
          obtain ⟨r0, r1, r2⟩ := (hr2.ext hw.ofDrew (fun x => x)).cells
          have x0 : w1.cell? ⟨bx, 0, none⟩ = some (.pointer (some ⟨g, 0, none⟩)) := blk_cell (ext_heapD hw hbx2 (fun x => x)) 0
          go_wp2
          exact ⟨rfl, rfl, Ext.refl _ _⟩
        · simp
        · go_simp
          try rfl
        apply owed_walk rfl
        · intro w1 hw hf
          obtain ⟨r0, r1, r2⟩ := (hr2.ext hw.ofDrew (fun x => x)).cells
          have x0 : w1.cell? ⟨bx, 0, none⟩ = some (.pointer (some ⟨g, 0, none⟩)) := blk_cell (ext_heapD hw hbx2 (fun x => x)) 0
          go_wp2
          exact ⟨rfl, rfl, Ext.refl _ _⟩
        · simp
        · go_simp
          try rfl
        apply owed_walk rfl
        · intro w1 hw hf
          obtain ⟨r0, r1, r2⟩ := (hr2.ext hw.ofDrew (fun x => x)).cells
          have x0 : w1.cell? ⟨bx, 0, none⟩ = some (.pointer (some ⟨g, 0, none⟩)) := blk_cell (ext_heapD hw hbx2 (fun x => x)) 0
          go_wp2
          exact ⟨rfl, rfl, Ext.refl _ _⟩
        · simp
        · go_simp
          try rfl
        apply owed_walk rfl
        · intro w1 hw hf
          obtain ⟨r0, r1, r2⟩ := (hr2.ext hw.ofDrew (fun x => x)).cells
          have x0 : w1.cell? ⟨bx, 0, none⟩ = some (.pointer (some ⟨g, 0, none⟩)) := blk_cell (ext_heapD hw hbx2 (fun x => x)) 0
          go_wp2
          exact ⟨rfl, rfl, Ext.refl _ _⟩
        · simp
        · go_simp
          try rfl
        apply owed_walk rfl
        · intro w1 hw hf
          obtain ⟨r0, r1, r2⟩ := (hr2.ext hw.ofDrew (fun x => x)).cells
          have x0 : w1.cell? ⟨bx, 0, none⟩ = some (.pointer (some ⟨g, 0, none⟩)) := blk_cell (ext_heapD hw hbx2 (fun x => x)) 0
          go_wp2
          exact ⟨rfl, rfl, Ext.refl _ _⟩
        · simp
        · go_simp
          try rfl
        apply owed_walk rfl
        · intro w1 hw hf
          obtain ⟨r0, r1, r2⟩ := (hr2.ext hw.ofDrew (fun x => x)).cells
          have x0 : w1.cell? ⟨bx, 0, none⟩ = some (.pointer (some ⟨g, 0, none⟩)) := blk_cell (ext_heapD hw hbx2 (fun x => x)) 0
          go_wp2
          exact ⟨rfl, rfl, Ext.refl _ _⟩
        · simp
        · go_simp
          try rfl
        apply owed_walk rfl
        · intro w1 hw hf
          obtain ⟨r0, r1, r2⟩ := (hr2.ext hw.ofDrew (fun x => x)).cells
          have x0 : w1.cell? ⟨bx, 0, none⟩ = some (.pointer (some ⟨g, 0, none⟩)) := blk_cell (ext_heapD hw hbx2 (fun x => x)) 0
          go_wp2
          exact ⟨rfl, rfl, Ext.refl _ _⟩
        · simp
        · go_simp
          try rfl
        apply owed_walk rfl
        · intro w1 hw hf
          obtain ⟨r0, r1, r2⟩ := (hr2.ext hw.ofDrew (fun x => x)).cells
          have x0 : w1.cell? ⟨bx, 0, none⟩ = some (.pointer (some ⟨g, 0, none⟩)) := blk_cell (ext_heapD hw hbx2 (fun x => x)) 0
          go_wp2
          exact ⟨rfl, rfl, Ext.refl _ _⟩
        · simp
        · go_simp
          try rfl
        apply owed_walk rfl
        · intro w1 hw hf
          obtain ⟨r0, r1, r2⟩ := (hr2.ext hw.ofDrew (fun x => x)).cells
          have x0 : w1.cell? ⟨bx, 0, none⟩ = some (.pointer (some ⟨g, 0, none⟩)) := blk_cell (ext_heapD hw hbx2 (fun x => x)) 0
          go_wp2
          exact ⟨rfl, rfl, Ext.refl _ _⟩
        · simp
        · go_simp
          try rfl
        apply owed_end
        intro w1 hw _
        unfold TailIn
        have hBw := hw.ofDrew.below
        gi_wp2
        refine ⟨fun f h => (by cases h), ?_⟩
        gi_wp2
        refine ⟨⟨k + 1, pre, by omega, by omega, by go_num, by rw [← HM.out]; exact hpre, hJ _ _ _ _ hj (below_grown hBw) (by simp), hb.trans (hBw.mono hb.size)⟩, ?_⟩
        simp [intOf]; omega
      · have te1 : t.toList.isEmpty = false := by simpa using hte
        have te2 : (!t.toList.isEmpty) = true := by simp [te1]
        have s1 := IntWalk.i64_in ((k : Int) + 1) (by omega)
        cases hbg : begB (s.extract p s.size) t with
        | false =>
          have hm2 : mets s p k (l0.drop k) = mets s p (k + 1) (l0.drop (k + 1)) := by rw [hm1, dif_neg (by rintro ⟨⟨_, h⟩, _⟩; rw [hbg] at h; cases h)]
          have HM := Lib.hid hm2
          rw [hbg] at hP
          have HP := Lib.hid hP
          clear hm1 hm2 hP hbg hte
          gi_wp2
          apply region_phiIn (leaves := (Leaf.val _) :: (Leaf.val _) :: (Leaf.val _) :: (Leaf.val _) :: (Leaf.val _) :: (Leaf.val _) :: (Leaf.val _) :: (Leaf.val _) :: (Leaf.val _) :: (Leaf.val _) :: (Leaf.val _) :: (Leaf.val _) :: (Leaf.val _) :: (Leaf.val _) :: (Leaf.val _) :: (Leaf.val _) :: (Leaf.val _) :: (Leaf.val _) :: (Leaf.val _) :: (Leaf.val _) :: (Leaf.val _) :: (Leaf.val _) :: ([] : List Leaf)) (k := 22) (b := #[0, 1, 3, 7, 15, 31, 63, 127, 7, 263, 775, 1799, 3847, 8191, 7, 32767, 65535, 131071, 262143, 262143, 786431, 262143, 4194303, 8388607, 16777215]) (ms := []) (E := Ext G0) mixed (by kernel_rfl) rfl (by kernel_rfl) rfl
          apply owed_walk rfl
          · intro w1 hw hf
            obtain ⟨r0, r1, r2⟩ := (hr2.ext hw.ofDrew (fun x => x)).cells
            have x0 : w1.cell? ⟨bx, 0, none⟩ = some (.pointer (some ⟨g, 0, none⟩)) := blk_cell (ext_heapD hw hbx2 (fun x => x)) 0
            go_wp2
            exact ⟨rfl, rfl, Ext.refl _ _⟩
          · simp
          · go_simp
            try rfl
          apply owed_walk rfl
          · intro w1 hw hf
            obtain ⟨r0, r1, r2⟩ := (hr2.ext hw.ofDrew (fun x => x)).cells
            have x0 : w1.cell? ⟨bx, 0, none⟩ = some (.pointer (some ⟨g, 0, none⟩)) := blk_cell (ext_heapD hw hbx2 (fun x => x)) 0
            go_wp2
            exact ⟨rfl, rfl, Ext.refl _ _⟩
          · simp
          · go_simp
            try rfl
          apply owed_walk rfl
          · intro w1 hw hf
            obtain ⟨r0, r1, r2⟩ := (hr2.ext hw.ofDrew (fun x => x)).cells
            have x0 : w1.cell? ⟨bx, 0, none⟩ = some (.pointer (some ⟨g, 0, none⟩)) := blk_cell (ext_heapD hw hbx2 (fun x => x)) 0
            go_wp2
            exact ⟨rfl, rfl, Ext.refl _ _⟩
          · simp
          · go_simp
            try rfl
          apply owed_walk rfl
          · intro w1 hw hf
            obtain ⟨r0, r1, r2⟩ := (hr2.ext hw.ofDrew (fun x => x)).cells
            have x0 : w1.cell? ⟨bx, 0, none⟩ = some (.pointer (some ⟨g, 0, none⟩)) := blk_cell (ext_heapD hw hbx2 (fun x => x)) 0
            go_wp2
            exact ⟨rfl, rfl, Ext.refl _ _⟩
          · simp
          · go_simp
            try rfl
          apply owed_walk rfl
          · intro w1 hw hf
            obtain ⟨r0, r1, r2⟩ := (hr2.ext hw.ofDrew (fun x => x)).cells
            have x0 : w1.cell? ⟨bx, 0, none⟩ = some (.pointer (some ⟨g, 0, none⟩)) := blk_cell (ext_heapD hw hbx2 (fun x => x)) 0
            go_wp2
            exact ⟨rfl, rfl, Ext.refl _ _⟩
          · simp
          · go_simp
            try rfl
          apply owed_walk rfl
          · intro w1 hw hf
            obtain ⟨r0, r1, r2⟩ := (hr2.ext hw.ofDrew (fun x => x)).cells
            have x0 : w1.cell? ⟨bx, 0, none⟩ = some (.pointer (some ⟨g, 0, none⟩)) := blk_cell (ext_heapD hw hbx2 (fun x => x)) 0
            go_wp2
            exact ⟨rfl, rfl, Ext.refl _ _⟩
          · simp
          · go_simp
            try rfl
          apply owed_walk rfl
          · intro w1 hw hf
            obtain ⟨r0, r1, r2⟩ := (hr2.ext hw.ofDrew (fun x => x)).cells
            have x0 : w1.cell? ⟨bx, 0, none⟩ = some (.pointer (some ⟨g, 0, none⟩)) := blk_cell (ext_heapD hw hbx2 (fun x => x)) 0
            go_wp2
            exact ⟨rfl, rfl, Ext.refl _ _⟩
          · simp
          · go_simp
            try rfl
          apply owed_walk rfl
          · intro w1 hw hf
            obtain ⟨r0, r1, r2⟩ := (hr2.ext hw.ofDrew (fun x => x)).cells
            have x0 : w1.cell? ⟨bx, 0, none⟩ = some (.pointer (some ⟨g, 0, none⟩)) := blk_cell (ext_heapD hw hbx2 (fun x => x)) 0
            go_wp2
            exact ⟨rfl, rfl, Ext.refl _ _⟩
          · simp
          · go_simp
            try rfl
          apply owed_walk rfl
          · intro w1 hw hf
            obtain ⟨r0, r1, r2⟩ := (hr2.ext hw.ofDrew (fun x => x)).cells
            have x0 : w1.cell? ⟨bx, 0, none⟩ = some (.pointer (some ⟨g, 0, none⟩)) := blk_cell (ext_heapD hw hbx2 (fun x => x)) 0
            go_wp2
            exact ⟨rfl, rfl, Ext.refl _ _⟩
          · simp
          · go_simp
            try rfl
          apply owed_walk rfl
          · intro w1 hw hf
            obtain ⟨r0, r1, r2⟩ := (hr2.ext hw.ofDrew (fun x => x)).cells
            have x0 : w1.cell? ⟨bx, 0, none⟩ = some (.pointer (some ⟨g, 0, none⟩)) := blk_cell (ext_heapD hw hbx2 (fun x => x)) 0
            go_wp2
            exact ⟨rfl, rfl, Ext.refl _ _⟩
          · simp
          · go_simp
            try rfl
          apply owed_walk rfl
          · intro w1 hw hf
            obtain ⟨r0, r1, r2⟩ := (hr2.ext hw.ofDrew (fun x => x)).cells
            have x0 : w1.cell? ⟨bx, 0, none⟩ = some (.pointer (some ⟨g, 0, none⟩)) := blk_cell (ext_heapD hw hbx2 (fun x => x)) 0
            go_wp2
            exact ⟨rfl, rfl, Ext.refl _ _⟩
          · simp
          · go_simp
            try rfl
          apply owed_walk rfl
          · intro w1 hw hf
            obtain ⟨r0, r1, r2⟩ := (hr2.ext hw.ofDrew (fun x => x)).cells
            have x0 : w1.cell? ⟨bx, 0, none⟩ = some (.pointer (some ⟨g, 0, none⟩)) := blk_cell (ext_heapD hw hbx2 (fun x => x)) 0
            go_wp2
            exact ⟨rfl, rfl, Ext.refl _ _⟩
          · simp
          · go_simp
            try rfl
          apply owed_walk rfl
          · intro w1 hw hf
            obtain ⟨r0, r1, r2⟩ := (hr2.ext hw.ofDrew (fun x => x)).cells
            have x0 : w1.cell? ⟨bx, 0, none⟩ = some (.pointer (some ⟨g, 0, none⟩)) := blk_cell (ext_heapD hw hbx2 (fun x => x)) 0
            go_wp2
            exact ⟨rfl, rfl, Ext.refl _ _⟩
          · simp
          · go_simp
            try rfl
          apply owed_walk rfl
          · intro w1 hw hf
            obtain ⟨r0, r1, r2⟩ := (hr2.ext hw.ofDrew (fun x => x)).cells
            have x0 : w1.cell? ⟨bx, 0, none⟩ = some (.pointer (some ⟨g, 0, none⟩)) := blk_cell (ext_heapD hw hbx2 (fun x => x)) 0
            go_wp2
            exact ⟨rfl, rfl, Ext.refl _ _⟩
          · simp
          · go_simp
            try rfl
          apply owed_walk rfl
          · intro w1 hw hf
            obtain ⟨r0, r1, r2⟩ := (hr2.ext hw.ofDrew (fun x => x)).cells
            have x0 : w1.cell? ⟨bx, 0, none⟩ = some (.pointer (some ⟨g, 0, none⟩)) := blk_cell (ext_heapD hw hbx2 (fun x => x)) 0
            go_wp2
            exact ⟨rfl, rfl, Ext.refl _ _⟩
          · simp
          · go_simp
            try rfl
          apply owed_walk rfl
          · intro w1 hw hf
            obtain ⟨r0, r1, r2⟩ := (hr2.ext hw.ofDrew (fun x => x)).cells
            have x0 : w1.cell? ⟨bx, 0, none⟩ = some (.pointer (some ⟨g, 0, none⟩)) := blk_cell (ext_heapD hw hbx2 (fun x => x)) 0
            go_wp2_with (go_at_call 58; refine (HP.out _).mono ?_; rintro e w2 ⟨rfl, hx2⟩)
            exact ⟨rfl, rfl, Ext.of_below hx2 _⟩
          · simp
          · go_simp
            try rfl
          apply owed_walk rfl
          · intro w1 hw hf
            obtain ⟨r0, r1, r2⟩ := (hr2.ext hw.ofDrew (fun x => x)).cells
            have x0 : w1.cell? ⟨bx, 0, none⟩ = some (.pointer (some ⟨g, 0, none⟩)) := blk_cell (ext_heapD hw hbx2 (fun x => x)) 0
            go_wp2
            exact ⟨rfl, rfl, Ext.refl _ _⟩
          · simp
          · go_simp
            try rfl
          apply owed_walk rfl
          · intro w1 hw hf
            obtain ⟨r0, r1, r2⟩ := (hr2.ext hw.ofDrew (fun x => x)).cells
            have x0 : w1.cell? ⟨bx, 0, none⟩ = some (.pointer (some ⟨g, 0, none⟩)) := blk_cell (ext_heapD hw hbx2 (fun x => x)) 0
            go_wp2
            exact ⟨rfl, rfl, Ext.refl _ _⟩
          · simp
          · go_simp
            try rfl
          apply owed_walk rfl
          · intro w1 hw hf
            obtain ⟨r0, r1, r2⟩ := (hr2.ext hw.ofDrew (fun x => x)).cells
            have x0 : w1.cell? ⟨bx, 0, none⟩ = some (.pointer (some ⟨g, 0, none⟩)) := blk_cell (ext_heapD hw hbx2 (fun x => x)) 0
            go_wp2
            exact ⟨rfl, rfl, Ext.refl _ _⟩
          · simp
          · go_simp
            try rfl
          apply owed_walk rfl
          · intro w1 hw hf
            obtain ⟨r0, r1, r2⟩ := (hr2.ext hw.ofDrew (fun x => x)).cells
            have x0 : w1.cell? ⟨bx, 0, none⟩ = some (.pointer (some ⟨g, 0, none⟩)) := blk_cell (ext_heapD hw hbx2 (fun x => x)) 0
            go_wp2
            exact ⟨rfl, rfl, Ext.refl _ _⟩
          · simp
          · go_simp
            try rfl
          apply owed_walk rfl
          · intro w1 hw hf
            obtain ⟨r0, r1, r2⟩ := (hr2.ext hw.ofDrew (fun x => x)).cells
            have x0 : w1.cell? ⟨bx, 0, none⟩ = some (.pointer (some ⟨g, 0, none⟩)) := blk_cell (ext_heapD hw hbx2 (fun x => x)) 0
            go_wp2
            exact ⟨rfl, rfl, Ext.refl _ _⟩
          · simp
          · go_simp
            try rfl
          apply owed_walk rfl
          · intro w1 hw hf
            obtain ⟨r0, r1, r2⟩ := (hr2.ext hw.ofDrew (fun x => x)).cells
            have x0 : w1.cell? ⟨bx, 0, none⟩ = some (.pointer (some ⟨g, 0, none⟩)) := blk_cell (ext_heapD hw hbx2 (fun x => x)) 0
            go_wp2
            exact ⟨rfl, rfl, Ext.refl _ _⟩
          · simp
          · go_simp
            try rfl
          apply owed_end
          intro w1 hw _
          unfold TailIn
          have hBw := hw.ofDrew.below
          gi_wp2
          refine ⟨fun f h => (by cases h), ?_⟩
          gi_wp2
          refine ⟨⟨k + 1, pre, by omega, by omega, by go_num, by rw [← HM.out]; exact hpre, hJ _ _ _ _ hj (below_grown hBw) (by simp), hb.trans (hBw.mono hb.size)⟩, ?_⟩
          simp [intOf]; omega
        | true =>
          have hxb : k + 1 ≤ 140737488351233 ∧ t.size ≤ 140737488351232 := ⟨by omega, hls⟩
          have hm2 : mets s p k (l0.drop k) = ⟨(k + 1, t), hxb⟩ :: mets s p (k + 1) (l0.drop (k + 1)) := by rw [hm1, dif_pos ⟨⟨te1, hbg⟩, hxb⟩]
          have HM := Lib.hid hm2
          rw [hbg] at hP
          have HP := Lib.hid hP
          clear hm1 hm2 hP hbg hte
          gi_wp2
          apply region_phiIn (leaves := (Leaf.val _) :: (Leaf.val _) :: (Leaf.val _) :: (Leaf.val _) :: (Leaf.val _) :: (Leaf.val _) :: (Leaf.val _) :: (Leaf.val _) :: (Leaf.val _) :: (Leaf.val _) :: (Leaf.val _) :: (Leaf.val _) :: (Leaf.val _) :: (Leaf.val _) :: (Leaf.val _) :: (Leaf.val _) :: (Leaf.val _) :: (Leaf.val _) :: (Leaf.val _) :: (Leaf.val _) :: (Leaf.val _) :: (Leaf.val _) :: ([] : List Leaf)) (k := 22) (b := #[0, 1, 3, 7, 15, 31, 63, 127, 7, 263, 775, 1799, 3847, 8191, 7, 32767, 65535, 131071, 262143, 262143, 786431, 262143, 4194303, 8388607, 16777215]) (ms := []) (E := Ext G0) mixed (by kernel_rfl) rfl (by kernel_rfl) rfl
          apply owed_walk rfl
          · intro w1 hw hf
            obtain ⟨r0, r1, r2⟩ := (hr2.ext hw.ofDrew (fun x => x)).cells
            have x0 : w1.cell? ⟨bx, 0, none⟩ = some (.pointer (some ⟨g, 0, none⟩)) := blk_cell (ext_heapD hw hbx2 (fun x => x)) 0
            go_wp2
            exact ⟨rfl, rfl, Ext.refl _ _⟩
          · simp
          · go_simp
            try rfl
          apply owed_walk rfl
          · intro w1 hw hf
            obtain ⟨r0, r1, r2⟩ := (hr2.ext hw.ofDrew (fun x => x)).cells
            have x0 : w1.cell? ⟨bx, 0, none⟩ = some (.pointer (some ⟨g, 0, none⟩)) := blk_cell (ext_heapD hw hbx2 (fun x => x)) 0
            go_wp2
            exact ⟨rfl, rfl, Ext.refl _ _⟩
          · simp
          · go_simp
            try rfl
          apply owed_walk rfl
          · intro w1 hw hf
            obtain ⟨r0, r1, r2⟩ := (hr2.ext hw.ofDrew (fun x => x)).cells
            have x0 : w1.cell? ⟨bx, 0, none⟩ = some (.pointer (some ⟨g, 0, none⟩)) := blk_cell (ext_heapD hw hbx2 (fun x => x)) 0
            go_wp2
            exact ⟨rfl, rfl, Ext.refl _ _⟩
          · simp
          · go_simp
            try rfl
          apply owed_walk rfl
          · intro w1 hw hf
            obtain ⟨r0, r1, r2⟩ := (hr2.ext hw.ofDrew (fun x => x)).cells
            have x0 : w1.cell? ⟨bx, 0, none⟩ = some (.pointer (some ⟨g, 0, none⟩)) := blk_cell (ext_heapD hw hbx2 (fun x => x)) 0
            go_wp2
            exact ⟨rfl, rfl, Ext.refl _ _⟩
          · simp
          · go_simp
            try rfl
          apply owed_walk rfl
          · intro w1 hw hf
            obtain ⟨r0, r1, r2⟩ := (hr2.ext hw.ofDrew (fun x => x)).cells
            have x0 : w1.cell? ⟨bx, 0, none⟩ = some (.pointer (some ⟨g, 0, none⟩)) := blk_cell (ext_heapD hw hbx2 (fun x => x)) 0
            go_wp2
            exact ⟨rfl, rfl, Ext.refl _ _⟩
          · simp
          · go_simp
            try rfl
          apply owed_walk rfl
          · intro w1 hw hf
            obtain ⟨r0, r1, r2⟩ := (hr2.ext hw.ofDrew (fun x => x)).cells
            have x0 : w1.cell? ⟨bx, 0, none⟩ = some (.pointer (some ⟨g, 0, none⟩)) := blk_cell (ext_heapD hw hbx2 (fun x => x)) 0
            go_wp2
            exact ⟨rfl, rfl, Ext.refl _ _⟩
          · simp
          · go_simp
            try rfl
          apply owed_walk rfl
          · intro w1 hw hf
            obtain ⟨r0, r1, r2⟩ := (hr2.ext hw.ofDrew (fun x => x)).cells
            have x0 : w1.cell? ⟨bx, 0, none⟩ = some (.pointer (some ⟨g, 0, none⟩)) := blk_cell (ext_heapD hw hbx2 (fun x => x)) 0
            go_wp2
            exact ⟨rfl, rfl, Ext.refl _ _⟩
          · simp
          · go_simp
            try rfl
          apply owed_walk rfl
          · intro w1 hw hf
            obtain ⟨r0, r1, r2⟩ := (hr2.ext hw.ofDrew (fun x => x)).cells
            have x0 : w1.cell? ⟨bx, 0, none⟩ = some (.pointer (some ⟨g, 0, none⟩)) := blk_cell (ext_heapD hw hbx2 (fun x => x)) 0
            go_wp2
            exact ⟨rfl, rfl, Ext.refl _ _⟩
          · simp
          · go_simp
            try rfl
          apply owed_walk rfl
          · intro w1 hw hf
            obtain ⟨r0, r1, r2⟩ := (hr2.ext hw.ofDrew (fun x => x)).cells
            have x0 : w1.cell? ⟨bx, 0, none⟩ = some (.pointer (some ⟨g, 0, none⟩)) := blk_cell (ext_heapD hw hbx2 (fun x => x)) 0
            go_wp2
            exact ⟨rfl, rfl, Ext.refl _ _⟩
          · simp
          · go_simp
            try rfl
          apply owed_walk rfl
          · intro w1 hw hf
            obtain ⟨r0, r1, r2⟩ := (hr2.ext hw.ofDrew (fun x => x)).cells
            have x0 : w1.cell? ⟨bx, 0, none⟩ = some (.pointer (some ⟨g, 0, none⟩)) := blk_cell (ext_heapD hw hbx2 (fun x => x)) 0
            go_wp2
            exact ⟨rfl, rfl, Ext.refl _ _⟩
          · simp
          · go_simp
            try rfl
          apply owed_walk rfl
          · intro w1 hw hf
            obtain ⟨r0, r1, r2⟩ := (hr2.ext hw.ofDrew (fun x => x)).cells
            have x0 : w1.cell? ⟨bx, 0, none⟩ = some (.pointer (some ⟨g, 0, none⟩)) := blk_cell (ext_heapD hw hbx2 (fun x => x)) 0
            go_wp2
            exact ⟨rfl, rfl, Ext.refl _ _⟩
          · simp
          · go_simp
            try rfl
          apply owed_walk rfl
          · intro w1 hw hf
            obtain ⟨r0, r1, r2⟩ := (hr2.ext hw.ofDrew (fun x => x)).cells
            have x0 : w1.cell? ⟨bx, 0, none⟩ = some (.pointer (some ⟨g, 0, none⟩)) := blk_cell (ext_heapD hw hbx2 (fun x => x)) 0
            go_wp2
            exact ⟨rfl, rfl, Ext.refl _ _⟩
          · simp
          · go_simp
            try rfl
          apply owed_walk rfl
          · intro w1 hw hf
            obtain ⟨r0, r1, r2⟩ := (hr2.ext hw.ofDrew (fun x => x)).cells
            have x0 : w1.cell? ⟨bx, 0, none⟩ = some (.pointer (some ⟨g, 0, none⟩)) := blk_cell (ext_heapD hw hbx2 (fun x => x)) 0
            go_wp2
            exact ⟨rfl, rfl, Ext.refl _ _⟩
          · simp
          · go_simp
            try rfl
          apply owed_walk rfl
          · intro w1 hw hf
            obtain ⟨r0, r1, r2⟩ := (hr2.ext hw.ofDrew (fun x => x)).cells
            have x0 : w1.cell? ⟨bx, 0, none⟩ = some (.pointer (some ⟨g, 0, none⟩)) := blk_cell (ext_heapD hw hbx2 (fun x => x)) 0
            go_wp2
            exact ⟨rfl, rfl, Ext.refl _ _⟩
          · simp
          · go_simp
            try rfl
          apply owed_walk rfl
          · intro w1 hw hf
            obtain ⟨r0, r1, r2⟩ := (hr2.ext hw.ofDrew (fun x => x)).cells
            have x0 : w1.cell? ⟨bx, 0, none⟩ = some (.pointer (some ⟨g, 0, none⟩)) := blk_cell (ext_heapD hw hbx2 (fun x => x)) 0
            go_wp2
            exact ⟨rfl, rfl, Ext.refl _ _⟩
          · simp
          · go_simp
            try rfl
          apply owed_walk rfl
          · intro w1 hw hf
            obtain ⟨r0, r1, r2⟩ := (hr2.ext hw.ofDrew (fun x => x)).cells
            have x0 : w1.cell? ⟨bx, 0, none⟩ = some (.pointer (some ⟨g, 0, none⟩)) := blk_cell (ext_heapD hw hbx2 (fun x => x)) 0
            go_wp2_with (go_at_call 58; refine (HP.out _).mono ?_; rintro e w2 ⟨rfl, hx2⟩)
            exact ⟨rfl, rfl, Ext.of_below hx2 _⟩
          · simp
          · go_simp
            try rfl
          apply owed_walk rfl
          · intro w1 hw hf
            obtain ⟨r0, r1, r2⟩ := (hr2.ext hw.ofDrew (fun x => x)).cells
            have x0 : w1.cell? ⟨bx, 0, none⟩ = some (.pointer (some ⟨g, 0, none⟩)) := blk_cell (ext_heapD hw hbx2 (fun x => x)) 0
            go_wp2
            exact ⟨rfl, rfl, Ext.refl _ _⟩
          · simp
          · go_simp
            try rfl
          apply owed_walk rfl
          · intro w1 hw hf
            obtain ⟨r0, r1, r2⟩ := (hr2.ext hw.ofDrew (fun x => x)).cells
            have x0 : w1.cell? ⟨bx, 0, none⟩ = some (.pointer (some ⟨g, 0, none⟩)) := blk_cell (ext_heapD hw hbx2 (fun x => x)) 0
            go_wp2
            exact ⟨rfl, rfl, Ext.refl _ _⟩
          · simp
          · go_simp
            try rfl
          apply owed_walk rfl
          · intro w1 hw hf
            obtain ⟨r0, r1, r2⟩ := (hr2.ext hw.ofDrew (fun x => x)).cells
            have x0 : w1.cell? ⟨bx, 0, none⟩ = some (.pointer (some ⟨g, 0, none⟩)) := blk_cell (ext_heapD hw hbx2 (fun x => x)) 0
            go_wp2
            exact ⟨rfl, rfl, Ext.refl _ _⟩
          · simp
          · go_simp
            try rfl
          apply owed_walk rfl
          · intro w1 hw hf
            obtain ⟨r0, r1, r2⟩ := (hr2.ext hw.ofDrew (fun x => x)).cells
            have x0 : w1.cell? ⟨bx, 0, none⟩ = some (.pointer (some ⟨g, 0, none⟩)) := blk_cell (ext_heapD hw hbx2 (fun x => x)) 0
            go_wp2
            exact ⟨rfl, rfl, Ext.refl _ _⟩
          · simp
          · go_simp
            try rfl
          apply owed_walk rfl
          · intro w1 hw hf
            obtain ⟨r0, r1, r2⟩ := (hr2.ext hw.ofDrew (fun x => x)).cells
            have x0 : w1.cell? ⟨bx, 0, none⟩ = some (.pointer (some ⟨g, 0, none⟩)) := blk_cell (ext_heapD hw hbx2 (fun x => x)) 0
            go_wp2
            exact ⟨rfl, rfl, Ext.refl _ _⟩
          · simp
          · go_simp
            try rfl
          apply owed_walk rfl
          · intro w1 hw hf
            obtain ⟨r0, r1, r2⟩ := (hr2.ext hw.ofDrew (fun x => x)).cells
            have x0 : w1.cell? ⟨bx, 0, none⟩ = some (.pointer (some ⟨g, 0, none⟩)) := blk_cell (ext_heapD hw hbx2 (fun x => x)) 0
            go_wp2
            exact ⟨rfl, rfl, Ext.refl _ _⟩
          · simp
          · go_simp
            try rfl
          apply owed_end
          intro w1 hw _
          unfold TailIn
          have hBw := hw.ofDrew.below
          obtain ⟨fn, tmps, assign, body, hy, hR⟩ := hY pre ⟨(k + 1, t), hxb⟩ w1 (hJ _ _ _ _ hj (below_grown hBw) (by simp)) hml
          have hy' : (Instr.yield l #[Value.int .i64 ((k : Int) + 1), .string t]).run Try.prog w1 = .ok (.round l fn tmps assign body) w1 := hy
          gi_wp2
          refine hR.mono ?_
          rintro e W3 (⟨rfl, hJ3, hk3⟩ | ⟨rfl, hJx3⟩)
          · gi_wp2
            refine ⟨⟨k + 1, pre ++ [⟨(k + 1, t), hxb⟩], by omega, by simp; omega, by go_num, by rw [List.append_assoc, List.singleton_append, ← HM.out]; exact hpre, hJ3, (hb.trans (hBw.mono hb.size)).trans hk3⟩, ?_⟩
            simp [intOf]; omega
          · gi_wp2
            dsimp only [Exit.noGoto]
            gi_wp2
            go_end0
            exact ⟨⟨_, rfl⟩, .inr ⟨pre ++ [⟨(k + 1, t), hxb⟩], ⟨mets s p (k + 1) (l0.drop (k + 1)), by rw [List.append_assoc, List.singleton_append, ← HM.out]; exact hpre⟩, hJx3⟩⟩
    · obtain rfl : k = l0.length := by omega
      rw [List.drop_length] at hpre
      have HPRE := Lib.hid hpre
      clear hpre
      gi_wp2
      dsimp only [Exit.noGoto]
      gi_wp2
      go_end0
      refine ⟨⟨_, rfl⟩, .inl ⟨pre, ?_, hj⟩⟩
      rw [← HPRE.out]
      exact (List.append_nil _).symm

end Go.Proofs.Ytejialnbelleeaa
