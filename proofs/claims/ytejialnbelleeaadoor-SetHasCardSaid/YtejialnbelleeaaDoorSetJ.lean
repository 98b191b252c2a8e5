/-
  Package set: named. Printed by wip/tools/mk_named.py.
-/
import Derived.Test.YtejialnbelleeaaDoorSetI
import Derived.Test.YtejialnbelleeaaDoorMapT
namespace Go.Proofs.YtejialnbelleeaaDoor
open Go Go.RowKit Go.MapKept

theorem SlAt.em {α : Type} {sz : Nat} {enc : α → List Value} {tab : ByteArray → Option Bs} {n₀ : Nat} {w w' : World} {v : Value} {l : List α} (h : SlAt sz enc w v l) (hx : EM tab n₀ w w') : SlAt sz enc w' v l := by
  obtain ⟨A, c, rfl, hc, h0⟩ := h
  refine ⟨A, c, rfl, hc, h0.imp id ?_⟩
  rintro ⟨b, off, rfl, h⟩
  exact ⟨b, off, rfl, fun i x hi j y hj => hx.cell (h i x hi j y hj)⟩

structure Tab (tab : ByteArray → Option Bs) (A B C D G L N P Q S U X : Bs) : Prop where
  alpha : tab ⟨#[97, 108, 112, 104, 97]⟩ = some A
  upper : tab ⟨#[117, 112, 112, 101, 114]⟩ = some U
  lower : tab ⟨#[108, 111, 119, 101, 114]⟩ = some L
  digit : tab ⟨#[100, 105, 103, 105, 116]⟩ = some D
  alnum : tab ⟨#[97, 108, 110, 117, 109]⟩ = some N
  xdigit : tab ⟨#[120, 100, 105, 103, 105, 116]⟩ = some X
  blank : tab ⟨#[98, 108, 97, 110, 107]⟩ = some B
  space : tab ⟨#[115, 112, 97, 99, 101]⟩ = some S
  cntrl : tab ⟨#[99, 110, 116, 114, 108]⟩ = some C
  graph : tab ⟨#[103, 114, 97, 112, 104]⟩ = some G
  print : tab ⟨#[112, 114, 105, 110, 116]⟩ = some P
  punct : tab ⟨#[112, 117, 110, 99, 116]⟩ = some Q

def KeysAt (v : Value) (w : World) : Prop := KeyAt ⟨#[97, 108, 112, 104, 97]⟩ v w ∧ KeyAt ⟨#[117, 112, 112, 101, 114]⟩ v w ∧ KeyAt ⟨#[108, 111, 119, 101, 114]⟩ v w ∧ KeyAt ⟨#[100, 105, 103, 105, 116]⟩ v w ∧ KeyAt ⟨#[97, 108, 110, 117, 109]⟩ v w ∧ KeyAt ⟨#[120, 100, 105, 103, 105, 116]⟩ v w ∧ KeyAt ⟨#[98, 108, 97, 110, 107]⟩ v w ∧ KeyAt ⟨#[115, 112, 97, 99, 101]⟩ v w ∧ KeyAt ⟨#[99, 110, 116, 114, 108]⟩ v w ∧ KeyAt ⟨#[103, 114, 97, 112, 104]⟩ v w ∧ KeyAt ⟨#[112, 114, 105, 110, 116]⟩ v w ∧ KeyAt ⟨#[112, 117, 110, 99, 116]⟩ v w

set_option maxRecDepth 100000 in
set_option maxHeartbeats 4000000 in
theorem named_walk (tab : ByteArray → Option Bs) (A B C D G L N P Q S U X x1 x2 s1 s2 c1 c2 : Bs) (ht : Tab tab A B C D G L N P Q S U X)
    (hU : ∀ w, Calls Tryd.prog 40 #[.int .u8 65, .int .u8 90] w fun e w' => e = .returned (setV U) ∧ Below w.heap.size w w')
    (hL : ∀ w, Calls Tryd.prog 40 #[.int .u8 97, .int .u8 122] w fun e w' => e = .returned (setV L) ∧ Below w.heap.size w w')
    (hD : ∀ w, Calls Tryd.prog 40 #[.int .u8 48, .int .u8 57] w fun e w' => e = .returned (setV D) ∧ Below w.heap.size w w')
    (hG : ∀ w, Calls Tryd.prog 40 #[.int .u8 33, .int .u8 126] w fun e w' => e = .returned (setV G) ∧ Below w.heap.size w w')
    (hx1 : ∀ w, Calls Tryd.prog 40 #[.int .u8 65, .int .u8 70] w fun e w' => e = .returned (setV x1) ∧ Below w.heap.size w w')
    (hx2 : ∀ w, Calls Tryd.prog 40 #[.int .u8 97, .int .u8 102] w fun e w' => e = .returned (setV x2) ∧ Below w.heap.size w w')
    (hs1 : ∀ w, Calls Tryd.prog 40 #[.int .u8 9, .int .u8 13] w fun e w' => e = .returned (setV s1) ∧ Below w.heap.size w w')
    (hc1 : ∀ w, Calls Tryd.prog 40 #[.int .u8 0, .int .u8 31] w fun e w' => e = .returned (setV c1) ∧ Below w.heap.size w w')
    (hP : ∀ w, Calls Tryd.prog 40 #[.int .u8 32, .int .u8 126] w fun e w' => e = .returned (setV P) ∧ Below w.heap.size w w')
    (hA : ∀ v w, SetsAt w v [L] → Calls Tryd.prog 21 #[setV U, v] w fun e w' => e = .returned (setV A) ∧ Below w.heap.size w w')
    (hN : ∀ v w, SetsAt w v [D] → Calls Tryd.prog 21 #[setV A, v] w fun e w' => e = .returned (setV N) ∧ Below w.heap.size w w')
    (hX : ∀ v w, SetsAt w v [x1, x2] → Calls Tryd.prog 21 #[setV D, v] w fun e w' => e = .returned (setV X) ∧ Below w.heap.size w w')
    (hB : ∀ v w, BytesAt w v [9, 32] → Calls Tryd.prog 13 #[v] w fun e w' => e = .returned (setV B) ∧ Below w.heap.size w w')
    (hs2 : ∀ v w, BytesAt w v [32] → Calls Tryd.prog 13 #[v] w fun e w' => e = .returned (setV s2) ∧ Below w.heap.size w w')
    (hS : ∀ v w, SetsAt w v [s2] → Calls Tryd.prog 21 #[setV s1, v] w fun e w' => e = .returned (setV S) ∧ Below w.heap.size w w')
    (hc2 : ∀ v w, BytesAt w v [127] → Calls Tryd.prog 13 #[v] w fun e w' => e = .returned (setV c2) ∧ Below w.heap.size w w')
    (hC : ∀ v w, SetsAt w v [c2] → Calls Tryd.prog 21 #[setV c1, v] w fun e w' => e = .returned (setV C) ∧ Below w.heap.size w w')
    (hQ : ∀ w, Calls Tryd.prog 22 #[setV G, setV N] w fun e w' => e = .returned (setV Q) ∧ Below w.heap.size w w') (w : World) :
    Calls Tryd.prog 56 #[] w fun e w' => ∃ v, e = .returned v ∧ MapAt tab w.heap.size v w' ∧ KeysAt v w' ∧ Below w.heap.size w w' := by
  have hmm := @run_makeMap Tryd.prog
  have HU := Lib.hid hU
  have HL := Lib.hid hL
  have HD := Lib.hid hD
  have HG := Lib.hid hG
  have Hx1 := Lib.hid hx1
  have Hx2 := Lib.hid hx2
  have Hs1 := Lib.hid hs1
  have Hc1 := Lib.hid hc1
  have HP := Lib.hid hP
  have HA := Lib.hid hA
  have HN := Lib.hid hN
  have HX := Lib.hid hX
  have HB := Lib.hid hB
  have Hs2 := Lib.hid hs2
  have HS := Lib.hid hS
  have Hc2 := Lib.hid hc2
  have HC := Lib.hid hC
  have HQ := Lib.hid hQ
  have HT := Lib.hid ht
  clear ht hU hL hD hG hx1 hx2 hs1 hc1 hP hA hN hX hB hs2 hS hc2 hC hQ
  go_enter Tryd.func56, Tryd.ntmps56
  go_wp2_with fail
  refine (HU.out _).mono ?_
  rintro e w1 ⟨rfl, b1⟩
  go_wp2_with fail
  refine (HL.out _).mono ?_
  rintro e w2 ⟨rfl, b2⟩
  go_wp2_with fail
  refine (HD.out _).mono ?_
  rintro e w3 ⟨rfl, b3⟩
  go_wp2_with fail
  refine (HG.out _).mono ?_
  rintro e w4 ⟨rfl, b4⟩
  have y4 : Ext G0 w w4 := (((Ext.of_below b1 G0).trans (Ext.of_below b2 G0)).trans (Ext.of_below b3 G0)).trans (Ext.of_below b4 G0)
  clear b1 b2 b3 b4
  go_wp2_with fail
  generalize hw5 : World.alloc (World.alloc (World.alloc (World.alloc w4 _) _) _) _ = w5
  have hs5 : w5.heap.size = w4.heap.size + 1 + 1 + 1 + 1 := by rw [← hw5]; simp
  have fU : w5.heap[w4.heap.size]? = some (.cells (setC U) 24 (0, 0)) := by rw [← hw5]; exact heap_past (heap_past (heap_past (heap_new _ _) _) _) _
  have fL : w5.heap[w4.heap.size + 1]? = some (.cells (setC L) 24 (0, 0)) := by rw [← hw5]; exact heap_past (heap_past (heap_two _ _ _) _) _
  have fD : w5.heap[w4.heap.size + 1 + 1]? = some (.cells (setC D) 24 (0, 0)) := by rw [← hw5]; exact heap_past (heap_at _ _ _ (by simp)) _
  have fG : w5.heap[w4.heap.size + 1 + 1 + 1]? = some (.cells (setC G) 24 (0, 0)) := by rw [← hw5]; exact heap_at _ _ _ (by simp)
  have y5 : Ext G0 w w5 := by rw [← hw5]; exact (((y4.alloc _).alloc _).alloc _).alloc _
  have ha5 : w.heap.size ≤ w4.heap.size := y4.size
  generalize w4.heap.size = n4 at *
  clear hw5 y4
  rw [← hs5]
  refine (HA.out _ _ (sets_new w5 [L] _ _ rfl (by simp))).mono ?_
  rintro e w6 ⟨rfl, b6⟩
  have y6 : Ext G0 w5 w6 := ((Ext.refl _ _).alloc _).trans (Ext.of_below b6 G0)
  replace fU := ext_heap y6 fU (fun x => x)
  replace fL := ext_heap y6 fL (fun x => x)
  replace fD := ext_heap y6 fD (fun x => x)
  replace fG := ext_heap y6 fG (fun x => x)
  replace y6 := y5.trans y6
  clear b6 y5
  obtain ⟨d0, d1, d2, d3⟩ := cells4 fD
  have hl6 := lt_of_block fD
  have hlG := lt_of_block fG
  go_wp2_with fail
  clear d0 d1 d2 d3
  generalize hw7 : World.alloc w6 (.cells #[wordV (word A 0), wordV (word A 1), wordV (word A 2), wordV (word A 3)] _) = w7
  have hs7 : w7.heap.size = w6.heap.size + 1 := by rw [← hw7]; simp
  have fA : w7.heap[w6.heap.size]? = some (.cells (setC A) 24 (0, 0)) := by rw [← hw7]; exact heap_new _ _
  replace fU : w7.heap[n4]? = some (.cells (setC U) 24 (0, 0)) := by rw [← hw7]; exact heap_past fU _
  replace fL : w7.heap[n4 + 1]? = some (.cells (setC L) 24 (0, 0)) := by rw [← hw7]; exact heap_past fL _
  replace fD : w7.heap[n4 + 1 + 1]? = some (.cells (setC D) 24 (0, 0)) := by rw [← hw7]; exact heap_past fD _
  replace fG : w7.heap[n4 + 1 + 1 + 1]? = some (.cells (setC G) 24 (0, 0)) := by rw [← hw7]; exact heap_past fG _
  have y7 : Ext G0 w w7 := by rw [← hw7]; exact y6.alloc _
  have ha6 : w.heap.size ≤ w6.heap.size := y6.size
  generalize w6.heap.size = n6 at *
  clear hw7 y6
  rw [← hs7]
  refine (HN.out _ _ (sets_new w7 [D] _ _ rfl (by simp))).mono ?_
  rintro e w8 ⟨rfl, b8⟩
  have y8 : Ext G0 w7 w8 := ((Ext.refl _ _).alloc _).trans (Ext.of_below b8 G0)
  replace fU := ext_heap y8 fU (fun x => x)
  replace fL := ext_heap y8 fL (fun x => x)
  replace fD := ext_heap y8 fD (fun x => x)
  replace fG := ext_heap y8 fG (fun x => x)
  replace fA := ext_heap y8 fA (fun x => x)
  replace y8 := y7.trans y8
  clear b8 y7
  go_wp2_with fail
  generalize hw9 : World.alloc w8 _ = w9
  have fN : w9.heap[w8.heap.size]? = some (.cells (setC N) 24 (0, 0)) := by rw [← hw9]; exact heap_new _ _
  replace fU : w9.heap[n4]? = some (.cells (setC U) 24 (0, 0)) := by rw [← hw9]; exact heap_past fU _
  replace fL : w9.heap[n4 + 1]? = some (.cells (setC L) 24 (0, 0)) := by rw [← hw9]; exact heap_past fL _
  replace fD : w9.heap[n4 + 1 + 1]? = some (.cells (setC D) 24 (0, 0)) := by rw [← hw9]; exact heap_past fD _
  replace fG : w9.heap[n4 + 1 + 1 + 1]? = some (.cells (setC G) 24 (0, 0)) := by rw [← hw9]; exact heap_past fG _
  replace fA : w9.heap[n6]? = some (.cells (setC A) 24 (0, 0)) := by rw [← hw9]; exact heap_past fA _
  have y9 : Ext G0 w w9 := by rw [← hw9]; exact y8.alloc _
  have ha8 : w.heap.size ≤ w8.heap.size := y8.size
  generalize w8.heap.size = n8 at *
  clear hw9 y8 hs7 hs5 hl6 hlG

  apply region_phi (leaves := (Leaf.ref false false (fun v wx => MapAt tab w.heap.size v wx)) :: (Leaf.val _) :: (Leaf.lay 19 (fun v w => KeyAt ⟨#[97, 108, 112, 104, 97]⟩ v w)) :: (Leaf.val _) :: (Leaf.lay 19 (fun v w => KeyAt ⟨#[117, 112, 112, 101, 114]⟩ v w)) :: (Leaf.val _) :: (Leaf.lay 19 (fun v w => KeyAt ⟨#[108, 111, 119, 101, 114]⟩ v w)) :: (Leaf.val _) :: (Leaf.lay 19 (fun v w => KeyAt ⟨#[100, 105, 103, 105, 116]⟩ v w)) :: (Leaf.val _) :: (Leaf.lay 19 (fun v w => KeyAt ⟨#[97, 108, 110, 117, 109]⟩ v w)) :: (Leaf.val _) :: (Leaf.val _) :: (Leaf.val _) :: (Leaf.ref false false (fun v w => SetsAt w v [x1, x2])) :: (Leaf.val _) :: (Leaf.lay 19 (fun v w => KeyAt ⟨#[120, 100, 105, 103, 105, 116]⟩ v w)) :: (Leaf.ref false false (fun v w => BytesAt w v [9, 32])) :: (Leaf.val _) :: (Leaf.lay 19 (fun v w => KeyAt ⟨#[98, 108, 97, 110, 107]⟩ v w)) :: (Leaf.val _) :: (Leaf.ref false false (fun v w => BytesAt w v [32])) :: (Leaf.val _) :: (Leaf.ref false false (fun v w => SetsAt w v [s2])) :: (Leaf.val _) :: (Leaf.lay 19 (fun v w => KeyAt ⟨#[115, 112, 97, 99, 101]⟩ v w)) :: (Leaf.val _) :: (Leaf.ref false false (fun v w => BytesAt w v [127])) :: (Leaf.val _) :: (Leaf.ref false false (fun v w => SetsAt w v [c2])) :: (Leaf.val _) :: (Leaf.lay 19 (fun v w => KeyAt ⟨#[99, 110, 116, 114, 108]⟩ v w)) :: (Leaf.val _) :: (Leaf.lay 19 (fun v w => KeyAt ⟨#[103, 114, 97, 112, 104]⟩ v w)) :: (Leaf.val _) :: (Leaf.lay 19 (fun v w => KeyAt ⟨#[112, 114, 105, 110, 116]⟩ v w)) :: (Leaf.val _) :: (Leaf.val _) :: (Leaf.val _) :: (Leaf.lay 19 (fun v w => KeyAt ⟨#[112, 117, 110, 99, 116]⟩ v w)) :: ([] : List Leaf)) (k := 40) (b := #[0, 0, 3, 0, 9, 0, 33, 0, 129, 0, 513, 0, 0, 4096, 12288, 30720, 63489, 0, 194560, 456705, 456704, 0, 3602432, 7796736, 16185344, 32962561, 32962560, 0, 234289152, 502724608, 1039595520, 2113337345, 0, 4294967297, 2113337344, 19293206529, 0, 0, 225451636736, 500329543681, 1099511627775, 2199023255551]) (ms := [2, 4, 6, 8, 10, 16, 19, 25, 31, 33, 35, 39]) (E := EM tab w.heap.size) mixed (by kernel_rfl) rfl (by kernel_rfl) rfl
  apply owed_walk_ref rfl
  · exact MapAt.em
  · intro w1 hw hf
    go_wp2
    exact ⟨rfl, ⟨_, #[], 0, by have := y9.size; have := hw.size; simp only [World.drew] at this; omega, rfl, heap_new _ _, fun x hx => by simp at hx⟩, (Ext.refl _ _).alloc _⟩
  · simp
  · intro v
    go_simp
    try rfl
  intro v0
  apply owed_walk rfl
  · intro w1 hw hf
    obtain ⟨a0, a1, a2, a3⟩ := cells4 (hw.cellsD fA)
    go_wp2
    exact ⟨rfl, rfl, Ext.refl _ _⟩
  · simp
  · go_simp
    try rfl
  refine owed_lay (c := v0) rfl rfl rfl (List.mem_of_elem_eq_true (by kernel_rfl)) KeyAt.em ?_ ?_
  · intro w1 hw hf
    have hm : MapAt tab w.heap.size v0 w1 := hf (0, false, _) (by repeat (first | exact List.Mem.head _ | apply List.Mem.tail)) (by kernel_rfl)
    obtain ⟨w2, h1, h2, h3⟩ := insert_good (P := Tryd.prog) Tryd.underlying83 Tryd.underlying9 hm HT.out.alpha
    refine ⟨w2, ?_, h2, h3⟩
    simp [execOp, go_sem, h1, Result.andThen]
  apply owed_walk rfl
  · intro w1 hw hf
    obtain ⟨a0, a1, a2, a3⟩ := cells4 (hw.cellsD fU)
    go_wp2
    exact ⟨rfl, rfl, Ext.refl _ _⟩
  · simp
  · go_simp
    try rfl
  refine owed_lay (c := v0) rfl rfl rfl (List.mem_of_elem_eq_true (by kernel_rfl)) KeyAt.em ?_ ?_
  · intro w1 hw hf
    have hm : MapAt tab w.heap.size v0 w1 := hf (0, false, _) (by repeat (first | exact List.Mem.head _ | apply List.Mem.tail)) (by kernel_rfl)
    obtain ⟨w2, h1, h2, h3⟩ := insert_good (P := Tryd.prog) Tryd.underlying83 Tryd.underlying9 hm HT.out.upper
    refine ⟨w2, ?_, h2, h3⟩
    simp [execOp, go_sem, h1, Result.andThen]
  apply owed_walk rfl
  · intro w1 hw hf
    obtain ⟨a0, a1, a2, a3⟩ := cells4 (hw.cellsD fL)
    go_wp2
    exact ⟨rfl, rfl, Ext.refl _ _⟩
  · simp
  · go_simp
    try rfl
  refine owed_lay (c := v0) rfl rfl rfl (List.mem_of_elem_eq_true (by kernel_rfl)) KeyAt.em ?_ ?_
  · intro w1 hw hf
    have hm : MapAt tab w.heap.size v0 w1 := hf (0, false, _) (by repeat (first | exact List.Mem.head _ | apply List.Mem.tail)) (by kernel_rfl)
    obtain ⟨w2, h1, h2, h3⟩ := insert_good (P := Tryd.prog) Tryd.underlying83 Tryd.underlying9 hm HT.out.lower
    refine ⟨w2, ?_, h2, h3⟩
    simp [execOp, go_sem, h1, Result.andThen]
  apply owed_walk rfl
  · intro w1 hw hf
    obtain ⟨a0, a1, a2, a3⟩ := cells4 (hw.cellsD fD)
    go_wp2
    exact ⟨rfl, rfl, Ext.refl _ _⟩
  · simp
  · go_simp
    try rfl
  refine owed_lay (c := v0) rfl rfl rfl (List.mem_of_elem_eq_true (by kernel_rfl)) KeyAt.em ?_ ?_
  · intro w1 hw hf
    have hm : MapAt tab w.heap.size v0 w1 := hf (0, false, _) (by repeat (first | exact List.Mem.head _ | apply List.Mem.tail)) (by kernel_rfl)
    obtain ⟨w2, h1, h2, h3⟩ := insert_good (P := Tryd.prog) Tryd.underlying83 Tryd.underlying9 hm HT.out.digit
    refine ⟨w2, ?_, h2, h3⟩
    simp [execOp, go_sem, h1, Result.andThen]
  apply owed_walk rfl
  · intro w1 hw hf
    obtain ⟨a0, a1, a2, a3⟩ := cells4 (hw.cellsD fN)
    go_wp2
    exact ⟨rfl, rfl, Ext.refl _ _⟩
  · simp
  · go_simp
    try rfl
  refine owed_lay (c := v0) rfl rfl rfl (List.mem_of_elem_eq_true (by kernel_rfl)) KeyAt.em ?_ ?_
  · intro w1 hw hf
    have hm : MapAt tab w.heap.size v0 w1 := hf (0, false, _) (by repeat (first | exact List.Mem.head _ | apply List.Mem.tail)) (by kernel_rfl)
    obtain ⟨w2, h1, h2, h3⟩ := insert_good (P := Tryd.prog) Tryd.underlying83 Tryd.underlying9 hm HT.out.alnum
    refine ⟨w2, ?_, h2, h3⟩
    simp [execOp, go_sem, h1, Result.andThen]
  apply owed_walk rfl
  · intro w1 hw hf
    obtain ⟨a0, a1, a2, a3⟩ := cells4 (hw.cellsD fD)
    go_wp2
    exact ⟨rfl, rfl, Ext.refl _ _⟩
  · simp
  · go_simp
    try rfl
  apply owed_walk rfl
  · intro w1 hw hf
    go_wp2_with (go_at_call 40; refine (Hx1.out _).mono ?_; rintro e w2 ⟨rfl, hx2⟩)
    exact ⟨rfl, rfl, Ext.of_below hx2 _⟩
  · simp
  · go_simp
    try rfl
  apply owed_walk rfl
  · intro w1 hw hf
    go_wp2_with (go_at_call 40; refine (Hx2.out _).mono ?_; rintro e w2 ⟨rfl, hx2⟩)
    exact ⟨rfl, rfl, Ext.of_below hx2 _⟩
  · simp
  · go_simp
    try rfl
  apply owed_walk_ref rfl
  · exact fun v w w' h hx => SlAt.em h hx
  · intro w1 hw hf
    go_wp2
    exact ⟨rfl, sets_new _ [x1, x2] _ _ rfl (by simp), (Ext.refl _ _).alloc _⟩
  · simp
  · intro v
    go_simp
    try rfl
  intro v14
  apply owed_walk rfl
  · intro w1 hw hf
    have hv := hf (14, false, _) (by repeat (first | exact List.Mem.head _ | apply List.Mem.tail)) (by kernel_rfl)
    go_wp2_with (go_at_call 21; refine (HX.out _ _ hv).mono ?_; rintro e w2 ⟨rfl, hx2⟩)
    exact ⟨rfl, rfl, Ext.of_below hx2 _⟩
  · simp
  · go_simp
    try rfl
  refine owed_lay (c := v0) rfl rfl rfl (List.mem_of_elem_eq_true (by kernel_rfl)) KeyAt.em ?_ ?_
  · intro w1 hw hf
    have hm : MapAt tab w.heap.size v0 w1 := hf (0, false, _) (by repeat (first | exact List.Mem.head _ | apply List.Mem.tail)) (by kernel_rfl)
    obtain ⟨w2, h1, h2, h3⟩ := insert_good (P := Tryd.prog) Tryd.underlying83 Tryd.underlying9 hm HT.out.xdigit
    refine ⟨w2, ?_, h2, h3⟩
    simp [execOp, go_sem, h1, Result.andThen]
  apply owed_walk_ref rfl
  · exact fun v w w' h hx => SlAt.em h hx
  · intro w1 hw hf
    go_wp2
    exact ⟨rfl, SlAt.new [9, 32] _ _ _ rfl (fun _ _ => rfl) (Nat.le_refl _) (by simp), (Ext.refl _ _).alloc _⟩
  · simp
  · intro v
    go_simp
    try rfl
  intro v17
  apply owed_walk rfl
  · intro w1 hw hf
    have hv := hf (17, false, _) (by repeat (first | exact List.Mem.head _ | apply List.Mem.tail)) (by kernel_rfl)
    go_wp2_with (go_at_call 13; refine (HB.out _ _ hv).mono ?_; rintro e w2 ⟨rfl, hx2⟩)
    exact ⟨rfl, rfl, Ext.of_below hx2 _⟩
  · simp
  · go_simp
    try rfl
  refine owed_lay (c := v0) rfl rfl rfl (List.mem_of_elem_eq_true (by kernel_rfl)) KeyAt.em ?_ ?_
  · intro w1 hw hf
    have hm : MapAt tab w.heap.size v0 w1 := hf (0, false, _) (by repeat (first | exact List.Mem.head _ | apply List.Mem.tail)) (by kernel_rfl)
    obtain ⟨w2, h1, h2, h3⟩ := insert_good (P := Tryd.prog) Tryd.underlying83 Tryd.underlying9 hm HT.out.blank
    refine ⟨w2, ?_, h2, h3⟩
    simp [execOp, go_sem, h1, Result.andThen]
  apply owed_walk rfl
  · intro w1 hw hf
    go_wp2_with (go_at_call 40; refine (Hs1.out _).mono ?_; rintro e w2 ⟨rfl, hx2⟩)
    exact ⟨rfl, rfl, Ext.of_below hx2 _⟩
  · simp
  · go_simp
    try rfl
  apply owed_walk_ref rfl
  · exact fun v w w' h hx => SlAt.em h hx
  · intro w1 hw hf
    go_wp2
    exact ⟨rfl, SlAt.new [32] _ _ _ rfl (fun _ _ => rfl) (Nat.le_refl _) (by simp), (Ext.refl _ _).alloc _⟩
  · simp
  · intro v
    go_simp
    try rfl
  intro v21
  apply owed_walk rfl
  · intro w1 hw hf
    have hv := hf (21, false, _) (by repeat (first | exact List.Mem.head _ | apply List.Mem.tail)) (by kernel_rfl)
    go_wp2_with (go_at_call 13; refine (Hs2.out _ _ hv).mono ?_; rintro e w2 ⟨rfl, hx2⟩)
    exact ⟨rfl, rfl, Ext.of_below hx2 _⟩
  · simp
  · go_simp
    try rfl
  apply owed_walk_ref rfl
  · exact fun v w w' h hx => SlAt.em h hx
  · intro w1 hw hf
    go_wp2
    exact ⟨rfl, sets_new _ [s2] _ _ rfl (by simp), (Ext.refl _ _).alloc _⟩
  · simp
  · intro v
    go_simp
    try rfl
  intro v23
  apply owed_walk rfl
  · intro w1 hw hf
    have hv := hf (23, false, _) (by repeat (first | exact List.Mem.head _ | apply List.Mem.tail)) (by kernel_rfl)
    go_wp2_with (go_at_call 21; refine (HS.out _ _ hv).mono ?_; rintro e w2 ⟨rfl, hx2⟩)
    exact ⟨rfl, rfl, Ext.of_below hx2 _⟩
  · simp
  · go_simp
    try rfl
  refine owed_lay (c := v0) rfl rfl rfl (List.mem_of_elem_eq_true (by kernel_rfl)) KeyAt.em ?_ ?_
  · intro w1 hw hf
    have hm : MapAt tab w.heap.size v0 w1 := hf (0, false, _) (by repeat (first | exact List.Mem.head _ | apply List.Mem.tail)) (by kernel_rfl)
    obtain ⟨w2, h1, h2, h3⟩ := insert_good (P := Tryd.prog) Tryd.underlying83 Tryd.underlying9 hm HT.out.space
    refine ⟨w2, ?_, h2, h3⟩
    simp [execOp, go_sem, h1, Result.andThen]
  apply owed_walk rfl
  · intro w1 hw hf
    go_wp2_with (go_at_call 40; refine (Hc1.out _).mono ?_; rintro e w2 ⟨rfl, hx2⟩)
    exact ⟨rfl, rfl, Ext.of_below hx2 _⟩
  · simp
  · go_simp
    try rfl
  apply owed_walk_ref rfl
  · exact fun v w w' h hx => SlAt.em h hx
  · intro w1 hw hf
    go_wp2
    exact ⟨rfl, SlAt.new [127] _ _ _ rfl (fun _ _ => rfl) (Nat.le_refl _) (by simp), (Ext.refl _ _).alloc _⟩
  · simp
  · intro v
    go_simp
    try rfl
  intro v27
  apply owed_walk rfl
  · intro w1 hw hf
    have hv := hf (27, false, _) (by repeat (first | exact List.Mem.head _ | apply List.Mem.tail)) (by kernel_rfl)
    go_wp2_with (go_at_call 13; refine (Hc2.out _ _ hv).mono ?_; rintro e w2 ⟨rfl, hx2⟩)
    exact ⟨rfl, rfl, Ext.of_below hx2 _⟩
  · simp
  · go_simp
    try rfl
  apply owed_walk_ref rfl
  · exact fun v w w' h hx => SlAt.em h hx
  · intro w1 hw hf
    go_wp2
    exact ⟨rfl, sets_new _ [c2] _ _ rfl (by simp), (Ext.refl _ _).alloc _⟩
  · simp
  · intro v
    go_simp
    try rfl
  intro v29
  apply owed_walk rfl
  · intro w1 hw hf
    have hv := hf (29, false, _) (by repeat (first | exact List.Mem.head _ | apply List.Mem.tail)) (by kernel_rfl)
    go_wp2_with (go_at_call 21; refine (HC.out _ _ hv).mono ?_; rintro e w2 ⟨rfl, hx2⟩)
    exact ⟨rfl, rfl, Ext.of_below hx2 _⟩
  · simp
  · go_simp
    try rfl
  refine owed_lay (c := v0) rfl rfl rfl (List.mem_of_elem_eq_true (by kernel_rfl)) KeyAt.em ?_ ?_
  · intro w1 hw hf
    have hm : MapAt tab w.heap.size v0 w1 := hf (0, false, _) (by repeat (first | exact List.Mem.head _ | apply List.Mem.tail)) (by kernel_rfl)
    obtain ⟨w2, h1, h2, h3⟩ := insert_good (P := Tryd.prog) Tryd.underlying83 Tryd.underlying9 hm HT.out.cntrl
    refine ⟨w2, ?_, h2, h3⟩
    simp [execOp, go_sem, h1, Result.andThen]
  apply owed_walk rfl
  · intro w1 hw hf
    obtain ⟨a0, a1, a2, a3⟩ := cells4 (hw.cellsD fG)
    go_wp2
    exact ⟨rfl, rfl, Ext.refl _ _⟩
  · simp
  · go_simp
    try rfl
  refine owed_lay (c := v0) rfl rfl rfl (List.mem_of_elem_eq_true (by kernel_rfl)) KeyAt.em ?_ ?_
  · intro w1 hw hf
    have hm : MapAt tab w.heap.size v0 w1 := hf (0, false, _) (by repeat (first | exact List.Mem.head _ | apply List.Mem.tail)) (by kernel_rfl)
    obtain ⟨w2, h1, h2, h3⟩ := insert_good (P := Tryd.prog) Tryd.underlying83 Tryd.underlying9 hm HT.out.graph
    refine ⟨w2, ?_, h2, h3⟩
    simp [execOp, go_sem, h1, Result.andThen]
  apply owed_walk rfl
  · intro w1 hw hf
    go_wp2_with (go_at_call 40; refine (HP.out _).mono ?_; rintro e w2 ⟨rfl, hx2⟩)
    exact ⟨rfl, rfl, Ext.of_below hx2 _⟩
  · simp
  · go_simp
    try rfl
  refine owed_lay (c := v0) rfl rfl rfl (List.mem_of_elem_eq_true (by kernel_rfl)) KeyAt.em ?_ ?_
  · intro w1 hw hf
    have hm : MapAt tab w.heap.size v0 w1 := hf (0, false, _) (by repeat (first | exact List.Mem.head _ | apply List.Mem.tail)) (by kernel_rfl)
    obtain ⟨w2, h1, h2, h3⟩ := insert_good (P := Tryd.prog) Tryd.underlying83 Tryd.underlying9 hm HT.out.print
    refine ⟨w2, ?_, h2, h3⟩
    simp [execOp, go_sem, h1, Result.andThen]
  apply owed_walk rfl
  · intro w1 hw hf
    obtain ⟨a0, a1, a2, a3⟩ := cells4 (hw.cellsD fG)
    go_wp2
    exact ⟨rfl, rfl, Ext.refl _ _⟩
  · simp
  · go_simp
    try rfl
  apply owed_walk rfl
  · intro w1 hw hf
    obtain ⟨a0, a1, a2, a3⟩ := cells4 (hw.cellsD fN)
    go_wp2
    exact ⟨rfl, rfl, Ext.refl _ _⟩
  · simp
  · go_simp
    try rfl
  apply owed_walk rfl
  · intro w1 hw hf
    go_wp2_with (go_at_call 22; refine (HQ.out _).mono ?_; rintro e w2 ⟨rfl, hx2⟩)
    exact ⟨rfl, rfl, Ext.of_below hx2 _⟩
  · simp
  · go_simp
    try rfl
  refine owed_lay (c := v0) rfl rfl rfl (List.mem_of_elem_eq_true (by kernel_rfl)) KeyAt.em ?_ ?_
  · intro w1 hw hf
    have hm : MapAt tab w.heap.size v0 w1 := hf (0, false, _) (by repeat (first | exact List.Mem.head _ | apply List.Mem.tail)) (by kernel_rfl)
    obtain ⟨w2, h1, h2, h3⟩ := insert_good (P := Tryd.prog) Tryd.underlying83 Tryd.underlying9 hm HT.out.punct
    refine ⟨w2, ?_, h2, h3⟩
    simp [execOp, go_sem, h1, Result.andThen]
  apply owed_end
  intro wE hw hf
  have k2 : KeyAt ⟨#[97, 108, 112, 104, 97]⟩ v0 wE := hf (2, false, _) (by repeat (first | exact List.Mem.head _ | apply List.Mem.tail)) (by kernel_rfl)
  have k4 : KeyAt ⟨#[117, 112, 112, 101, 114]⟩ v0 wE := hf (4, false, _) (by repeat (first | exact List.Mem.head _ | apply List.Mem.tail)) (by kernel_rfl)
  have k6 : KeyAt ⟨#[108, 111, 119, 101, 114]⟩ v0 wE := hf (6, false, _) (by repeat (first | exact List.Mem.head _ | apply List.Mem.tail)) (by kernel_rfl)
  have k8 : KeyAt ⟨#[100, 105, 103, 105, 116]⟩ v0 wE := hf (8, false, _) (by repeat (first | exact List.Mem.head _ | apply List.Mem.tail)) (by kernel_rfl)
  have k10 : KeyAt ⟨#[97, 108, 110, 117, 109]⟩ v0 wE := hf (10, false, _) (by repeat (first | exact List.Mem.head _ | apply List.Mem.tail)) (by kernel_rfl)
  have k16 : KeyAt ⟨#[120, 100, 105, 103, 105, 116]⟩ v0 wE := hf (16, false, _) (by repeat (first | exact List.Mem.head _ | apply List.Mem.tail)) (by kernel_rfl)
  have k19 : KeyAt ⟨#[98, 108, 97, 110, 107]⟩ v0 wE := hf (19, false, _) (by repeat (first | exact List.Mem.head _ | apply List.Mem.tail)) (by kernel_rfl)
  have k25 : KeyAt ⟨#[115, 112, 97, 99, 101]⟩ v0 wE := hf (25, false, _) (by repeat (first | exact List.Mem.head _ | apply List.Mem.tail)) (by kernel_rfl)
  have k31 : KeyAt ⟨#[99, 110, 116, 114, 108]⟩ v0 wE := hf (31, false, _) (by repeat (first | exact List.Mem.head _ | apply List.Mem.tail)) (by kernel_rfl)
  have k33 : KeyAt ⟨#[103, 114, 97, 112, 104]⟩ v0 wE := hf (33, false, _) (by repeat (first | exact List.Mem.head _ | apply List.Mem.tail)) (by kernel_rfl)
  have k35 : KeyAt ⟨#[112, 114, 105, 110, 116]⟩ v0 wE := hf (35, false, _) (by repeat (first | exact List.Mem.head _ | apply List.Mem.tail)) (by kernel_rfl)
  have k39 : KeyAt ⟨#[112, 117, 110, 99, 116]⟩ v0 wE := hf (39, false, _) (by repeat (first | exact List.Mem.head _ | apply List.Mem.tail)) (by kernel_rfl)
  have hm : MapAt tab w.heap.size v0 wE := hf (0, false, _) (by repeat (first | exact List.Mem.head _ | apply List.Mem.tail)) (by kernel_rfl)
  clear hf
  unfold Tail
  go_wp2
  go_ret
  exact ⟨v0, rfl, hm, ⟨k2, k4, k6, k8, k10, k16, k19, k25, k31, k33, k35, k39⟩, (y9.below.mono (by omega)).trans ((Rel.of0 (E := EM tab w.heap.size) (⟨rfl, rfl, rfl, Nat.le_refl _, fun _ _ _ => rfl⟩ : Ext G0 w9 w9.drew)).below (by have := y9.size; omega) |>.trans (hw.below (by have := y9.size; simp only [World.drew]; omega)))⟩

end Go.Proofs.YtejialnbelleeaaDoor
