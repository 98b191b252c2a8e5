/-
  Package text: reads.
-/
import Derived.Test.YtejialnbelleeaaTxtB
namespace Go.Proofs.Ytejialnbelleeaa
open Go Go.RowKit

theorem G1.ne {g k : Nat} (h : k ≠ g) : ¬ G1 g k := h
/-- Two blocks ahead, then what turns g alone. -/
theorem ext_from {g : Nat} {w w' : World} {a b : Obj} (h : Ext (G1 g) ((w.alloc a).alloc b) w') : Ext (G1 g) w w' := (((Ext.refl _ _).alloc _).alloc _).trans h

set_option maxHeartbeats 1000000 in
/-- Of nobody. -/
theorem readsN_intV (v : Value) (w : World) :
    Calls Try.prog 31 #[.pointer none, v] w fun e w' => e = .returned (intV (0)) ∧ Below w.heap.size w w' := by
  go_enter_defers Try.func31, Try.ntmps31
  go_wp2
  refine ⟨intV (0), by simp [results, Try.results31, go_sem], rfl, ?_⟩
  exact (((Ext.refl G0 w).alloc _).alloc _).below

set_option maxHeartbeats 1000000 in
/-- Of one that has failed. -/
theorem readsF_intV (g p : Nat) (s : ByteArray) (er : Int) (v : Value) (w : World) (hr : RdAt w g s p er) (he : er ≠ 0) :
    Calls Try.prog 31 #[.pointer (some ⟨g, 0, none⟩), v] w fun e w' => e = .returned (intV (0)) ∧ Below w.heap.size w w' := by
  obtain ⟨-, -, r2⟩ := hr.cells
  have hlg := hr.lt
  have he1 : (er != 0) = true := by simp [he]
  go_enter_defers Try.func31, Try.ntmps31
  go_wp2
  refine ⟨intV (0), by simp [results, Try.results31, go_sem], rfl, ?_⟩
  exact (((Ext.refl G0 w).alloc _).alloc _).below

set_option maxHeartbeats 1000000 in
/-- Of one that reads. -/
theorem reads_intV (f : FuncId) (caps : Array Value) (g p : Nat) (s : ByteArray) (w : World) (res : Res (Int)) (hcf : ∀ w, (callFunc f caps).run Try.prog w = .ok (.enter f caps) w) (hr : RdAt w g s p 0)
    (hd : ∀ w1, Ext G0 w w1 → Calls Try.prog f caps w1 fun e w2 => Ext (G1 g) w1 w2 ∧ res.out intV g s e w2) :
    Calls Try.prog 31 #[.pointer (some ⟨g, 0, none⟩), .func (.func f) #[] caps] w fun e w' => Ext (G1 g) w w' ∧ res.fin intV (0) g s e w' := by
  have hmf : ∀ (fn : Fn) (first cap : Array Value) (w : World), (Instr.makeFunc fn first cap).run Try.prog w = .ok (.func fn first cap) w := fun _ _ _ _ => rfl
  obtain ⟨-, -, r2⟩ := hr.cells
  have hlg := hr.lt
  have HD := Lib.hid hd
  clear hd
  go_enter_defers Try.func31, Try.ntmps31
  go_wp2_with fail
  generalize hwz : World.alloc (World.alloc w _) _ = wz
  have fX : wz.heap[w.heap.size]? = some (.cells #[.pointer (some ⟨g, 0, none⟩)] 29 (0, 0)) := by rw [← hwz]; exact heap_two' _ _ _
  have fB : wz.heap[w.heap.size + 1]? = some (.cells #[.int .i64 0] 3 (0, 0)) := by rw [← hwz]; exact heap_two _ _ _
  have hx0 : Ext G0 w wz := by rw [← hwz]; exact ((Ext.refl _ _).alloc _).alloc _
  clear hwz
  refine (HD.out _ hx0).mono ?_
  rintro e w2 ⟨hx, ho⟩
  replace fX := ext_heap hx fX (G1.ne (by omega))
  replace fB := ext_heap hx fB (G1.ne (by omega))
  have hxx := (hx0.up (G1 g)).trans hx
  have hzz := hx0.size
  clear hx hx0
  cases res with
  | ok x q =>
    obtain ⟨rfl, hr2⟩ := ho
    have b0 := blk_cell fB
    have bz := blk_free fB
    have hb := lt_of_block fB
    go_wp2
    refine leaves_cons (f := 56) (args := #[.pointer (some ⟨w.heap.size + 1, 0, none⟩), .pointer (some ⟨w.heap.size, 0, none⟩)]) (by simp) (by simp [go_sem]) ?_
    refine (idle_intV _ _ _).mono ?_
    rintro e u' w'' ⟨rfl, rfl, rfl⟩
    refine ⟨intV x, ?_, ?_, rfl, ?_⟩
    · simp [results, Try.results31, go_sem, b0]
    · exact hxx.setCell (.inr (by simp)) _
    · exact hr2.store (by simp; omega) _
  | fail q er =>
    obtain ⟨q0, rfl, hr2⟩ := ho
    go_wp2
    refine leaves_cons (f := 56) (args := #[.pointer (some ⟨w.heap.size + 1, 0, none⟩), .pointer (some ⟨w.heap.size, 0, none⟩)]) (by simp) (by simp [go_sem]) ?_
    refine (thrown_intV g _ _ q0 q (0) er s _ _ [] _ hr2 fB fX (by omega) (by omega)).mono ?_
    rintro e u' w'' ⟨rfl, rfl, hr3, hb3, hx3⟩
    refine ⟨intV (0), ?_, hxx.own2 hx3 (by omega), rfl, hr3⟩
    have c0 := blk_cell hb3
    simp [results, Try.results31, go_sem, c0]

set_option maxHeartbeats 1000000 in
/-- Of nobody. -/
theorem readsN_boolV (v : Value) (w : World) :
    Calls Try.prog 29 #[.pointer none, v] w fun e w' => e = .returned (boolV (false)) ∧ Below w.heap.size w w' := by
  go_enter_defers Try.func29, Try.ntmps29
  go_wp2
  refine ⟨boolV (false), by simp [results, Try.results29, go_sem], rfl, ?_⟩
  exact (((Ext.refl G0 w).alloc _).alloc _).below

set_option maxHeartbeats 1000000 in
/-- Of one that has failed. -/
theorem readsF_boolV (g p : Nat) (s : ByteArray) (er : Int) (v : Value) (w : World) (hr : RdAt w g s p er) (he : er ≠ 0) :
    Calls Try.prog 29 #[.pointer (some ⟨g, 0, none⟩), v] w fun e w' => e = .returned (boolV (false)) ∧ Below w.heap.size w w' := by
  obtain ⟨-, -, r2⟩ := hr.cells
  have hlg := hr.lt
  have he1 : (er != 0) = true := by simp [he]
  go_enter_defers Try.func29, Try.ntmps29
  go_wp2
  refine ⟨boolV (false), by simp [results, Try.results29, go_sem], rfl, ?_⟩
  exact (((Ext.refl G0 w).alloc _).alloc _).below

set_option maxHeartbeats 1000000 in
/-- Of one that reads. -/
theorem reads_boolV (f : FuncId) (caps : Array Value) (g p : Nat) (s : ByteArray) (w : World) (res : Res (Bool)) (hcf : ∀ w, (callFunc f caps).run Try.prog w = .ok (.enter f caps) w) (hr : RdAt w g s p 0)
    (hd : ∀ w1, Ext G0 w w1 → Calls Try.prog f caps w1 fun e w2 => Ext (G1 g) w1 w2 ∧ res.out boolV g s e w2) :
    Calls Try.prog 29 #[.pointer (some ⟨g, 0, none⟩), .func (.func f) #[] caps] w fun e w' => Ext (G1 g) w w' ∧ res.fin boolV (false) g s e w' := by
  have hmf : ∀ (fn : Fn) (first cap : Array Value) (w : World), (Instr.makeFunc fn first cap).run Try.prog w = .ok (.func fn first cap) w := fun _ _ _ _ => rfl
  obtain ⟨-, -, r2⟩ := hr.cells
  have hlg := hr.lt
  have HD := Lib.hid hd
  clear hd
  go_enter_defers Try.func29, Try.ntmps29
  go_wp2_with fail
  generalize hwz : World.alloc (World.alloc w _) _ = wz
  have fX : wz.heap[w.heap.size]? = some (.cells #[.pointer (some ⟨g, 0, none⟩)] 29 (0, 0)) := by rw [← hwz]; exact heap_two' _ _ _
  have fB : wz.heap[w.heap.size + 1]? = some (.cells #[.bool false] 4 (0, 0)) := by rw [← hwz]; exact heap_two _ _ _
  have hx0 : Ext G0 w wz := by rw [← hwz]; exact ((Ext.refl _ _).alloc _).alloc _
  clear hwz
  refine (HD.out _ hx0).mono ?_
  rintro e w2 ⟨hx, ho⟩
  replace fX := ext_heap hx fX (G1.ne (by omega))
  replace fB := ext_heap hx fB (G1.ne (by omega))
  have hxx := (hx0.up (G1 g)).trans hx
  have hzz := hx0.size
  clear hx hx0
  cases res with
  | ok x q =>
    obtain ⟨rfl, hr2⟩ := ho
    have b0 := blk_cell fB
    have bz := blk_free fB
    have hb := lt_of_block fB
    go_wp2
    refine leaves_cons (f := 55) (args := #[.pointer (some ⟨w.heap.size + 1, 0, none⟩), .pointer (some ⟨w.heap.size, 0, none⟩)]) (by simp) (by simp [go_sem]) ?_
    refine (idle_boolV _ _ _).mono ?_
    rintro e u' w'' ⟨rfl, rfl, rfl⟩
    refine ⟨boolV x, ?_, ?_, rfl, ?_⟩
    · simp [results, Try.results29, go_sem, b0]
    · exact hxx.setCell (.inr (by simp)) _
    · exact hr2.store (by simp; omega) _
  | fail q er =>
    obtain ⟨q0, rfl, hr2⟩ := ho
    go_wp2
    refine leaves_cons (f := 55) (args := #[.pointer (some ⟨w.heap.size + 1, 0, none⟩), .pointer (some ⟨w.heap.size, 0, none⟩)]) (by simp) (by simp [go_sem]) ?_
    refine (thrown_boolV g _ _ q0 q (false) er s _ _ [] _ hr2 fB fX (by omega) (by omega)).mono ?_
    rintro e u' w'' ⟨rfl, rfl, hr3, hb3, hx3⟩
    refine ⟨boolV (false), ?_, hxx.own2 hx3 (by omega), rfl, hr3⟩
    have c0 := blk_cell hb3
    simp [results, Try.results29, go_sem, c0]

set_option maxHeartbeats 1000000 in
/-- Of nobody. -/
theorem readsN_strV (v : Value) (w : World) :
    Calls Try.prog 35 #[.pointer none, v] w fun e w' => e = .returned (strV (⟨#[]⟩)) ∧ Below w.heap.size w w' := by
  go_enter_defers Try.func35, Try.ntmps35
  go_wp2
  refine ⟨strV (⟨#[]⟩), by simp [results, Try.results35, go_sem], rfl, ?_⟩
  exact (((Ext.refl G0 w).alloc _).alloc _).below

set_option maxHeartbeats 1000000 in
/-- Of one that has failed. -/
theorem readsF_strV (g p : Nat) (s : ByteArray) (er : Int) (v : Value) (w : World) (hr : RdAt w g s p er) (he : er ≠ 0) :
    Calls Try.prog 35 #[.pointer (some ⟨g, 0, none⟩), v] w fun e w' => e = .returned (strV (⟨#[]⟩)) ∧ Below w.heap.size w w' := by
  obtain ⟨-, -, r2⟩ := hr.cells
  have hlg := hr.lt
  have he1 : (er != 0) = true := by simp [he]
  go_enter_defers Try.func35, Try.ntmps35
  go_wp2
  refine ⟨strV (⟨#[]⟩), by simp [results, Try.results35, go_sem], rfl, ?_⟩
  exact (((Ext.refl G0 w).alloc _).alloc _).below

set_option maxHeartbeats 1000000 in
/-- Of one that reads. -/
theorem reads_strV (f : FuncId) (caps : Array Value) (g p : Nat) (s : ByteArray) (w : World) (res : Res (ByteArray)) (hcf : ∀ w, (callFunc f caps).run Try.prog w = .ok (.enter f caps) w) (hr : RdAt w g s p 0)
    (hd : ∀ w1, Ext G0 w w1 → Calls Try.prog f caps w1 fun e w2 => Ext (G1 g) w1 w2 ∧ res.out strV g s e w2) :
    Calls Try.prog 35 #[.pointer (some ⟨g, 0, none⟩), .func (.func f) #[] caps] w fun e w' => Ext (G1 g) w w' ∧ res.fin strV (⟨#[]⟩) g s e w' := by
  have hmf : ∀ (fn : Fn) (first cap : Array Value) (w : World), (Instr.makeFunc fn first cap).run Try.prog w = .ok (.func fn first cap) w := fun _ _ _ _ => rfl
  obtain ⟨-, -, r2⟩ := hr.cells
  have hlg := hr.lt
  have HD := Lib.hid hd
  clear hd
  go_enter_defers Try.func35, Try.ntmps35
  go_wp2_with fail
  generalize hwz : World.alloc (World.alloc w _) _ = wz
  have fX : wz.heap[w.heap.size]? = some (.cells #[.pointer (some ⟨g, 0, none⟩)] 29 (0, 0)) := by rw [← hwz]; exact heap_two' _ _ _
  have fB : wz.heap[w.heap.size + 1]? = some (.cells #[.string ⟨#[]⟩] 9 (0, 0)) := by rw [← hwz]; exact heap_two _ _ _
  have hx0 : Ext G0 w wz := by rw [← hwz]; exact ((Ext.refl _ _).alloc _).alloc _
  clear hwz
  refine (HD.out _ hx0).mono ?_
  rintro e w2 ⟨hx, ho⟩
  replace fX := ext_heap hx fX (G1.ne (by omega))
  replace fB := ext_heap hx fB (G1.ne (by omega))
  have hxx := (hx0.up (G1 g)).trans hx
  have hzz := hx0.size
  clear hx hx0
  cases res with
  | ok x q =>
    obtain ⟨rfl, hr2⟩ := ho
    have b0 := blk_cell fB
    have bz := blk_free fB
    have hb := lt_of_block fB
    go_wp2
    refine leaves_cons (f := 59) (args := #[.pointer (some ⟨w.heap.size + 1, 0, none⟩), .pointer (some ⟨w.heap.size, 0, none⟩)]) (by simp) (by simp [go_sem]) ?_
    refine (idle_strV _ _ _).mono ?_
    rintro e u' w'' ⟨rfl, rfl, rfl⟩
    refine ⟨strV x, ?_, ?_, rfl, ?_⟩
    · simp [results, Try.results35, go_sem, b0]
    · exact hxx.setCell (.inr (by simp)) _
    · exact hr2.store (by simp; omega) _
  | fail q er =>
    obtain ⟨q0, rfl, hr2⟩ := ho
    go_wp2
    refine leaves_cons (f := 59) (args := #[.pointer (some ⟨w.heap.size + 1, 0, none⟩), .pointer (some ⟨w.heap.size, 0, none⟩)]) (by simp) (by simp [go_sem]) ?_
    refine (thrown_strV g _ _ q0 q (⟨#[]⟩) er s _ _ [] _ hr2 fB fX (by omega) (by omega)).mono ?_
    rintro e u' w'' ⟨rfl, rfl, hr3, hb3, hx3⟩
    refine ⟨strV (⟨#[]⟩), ?_, hxx.own2 hx3 (by omega), rfl, hr3⟩
    have c0 := blk_cell hb3
    simp [results, Try.results35, go_sem, c0]

set_option maxHeartbeats 1000000 in
/-- Of nobody. -/
theorem readsN_foundV (v : Value) (w : World) :
    Calls Try.prog 27 #[.pointer none, v] w fun e w' => e = .returned (foundV ((0, false))) ∧ Below w.heap.size w w' := by
  go_enter_defers Try.func27, Try.ntmps27
  go_wp2
  refine ⟨foundV ((0, false)), by simp [results, Try.results27, go_sem], rfl, ?_⟩
  exact (((Ext.refl G0 w).alloc _).alloc _).below

set_option maxHeartbeats 1000000 in
/-- Of one that has failed. -/
theorem readsF_foundV (g p : Nat) (s : ByteArray) (er : Int) (v : Value) (w : World) (hr : RdAt w g s p er) (he : er ≠ 0) :
    Calls Try.prog 27 #[.pointer (some ⟨g, 0, none⟩), v] w fun e w' => e = .returned (foundV ((0, false))) ∧ Below w.heap.size w w' := by
  obtain ⟨-, -, r2⟩ := hr.cells
  have hlg := hr.lt
  have he1 : (er != 0) = true := by simp [he]
  go_enter_defers Try.func27, Try.ntmps27
  go_wp2
  refine ⟨foundV ((0, false)), by simp [results, Try.results27, go_sem], rfl, ?_⟩
  exact (((Ext.refl G0 w).alloc _).alloc _).below

set_option maxHeartbeats 1000000 in
/-- Of one that reads. -/
theorem reads_foundV (f : FuncId) (caps : Array Value) (g p : Nat) (s : ByteArray) (w : World) (res : Res ((Nat × Bool))) (hcf : ∀ w, (callFunc f caps).run Try.prog w = .ok (.enter f caps) w) (hr : RdAt w g s p 0)
    (hd : ∀ w1, Ext G0 w w1 → Calls Try.prog f caps w1 fun e w2 => Ext (G1 g) w1 w2 ∧ res.out foundV g s e w2) :
    Calls Try.prog 27 #[.pointer (some ⟨g, 0, none⟩), .func (.func f) #[] caps] w fun e w' => Ext (G1 g) w w' ∧ res.fin foundV ((0, false)) g s e w' := by
  have hmf : ∀ (fn : Fn) (first cap : Array Value) (w : World), (Instr.makeFunc fn first cap).run Try.prog w = .ok (.func fn first cap) w := fun _ _ _ _ => rfl
  obtain ⟨-, -, r2⟩ := hr.cells
  have hlg := hr.lt
  have HD := Lib.hid hd
  clear hd
  go_enter_defers Try.func27, Try.ntmps27
  go_wp2_with fail
  generalize hwz : World.alloc (World.alloc w _) _ = wz
  have fX : wz.heap[w.heap.size]? = some (.cells #[.pointer (some ⟨g, 0, none⟩)] 29 (0, 0)) := by rw [← hwz]; exact heap_two' _ _ _
  have fB : wz.heap[w.heap.size + 1]? = some (.cells #[.int .u8 0, .bool false] 56 (0, 0)) := by rw [← hwz]; exact heap_two _ _ _
  have hx0 : Ext G0 w wz := by rw [← hwz]; exact ((Ext.refl _ _).alloc _).alloc _
  clear hwz
  refine (HD.out _ hx0).mono ?_
  rintro e w2 ⟨hx, ho⟩
  replace fX := ext_heap hx fX (G1.ne (by omega))
  replace fB := ext_heap hx fB (G1.ne (by omega))
  have hxx := (hx0.up (G1 g)).trans hx
  have hzz := hx0.size
  clear hx hx0
  cases res with
  | ok x q =>
    obtain ⟨rfl, hr2⟩ := ho
    have b0 := blk_cell fB
    have bz := blk_free fB
    have hb := lt_of_block fB
    go_wp2
    refine leaves_cons (f := 54) (args := #[.pointer (some ⟨w.heap.size + 1, 0, none⟩), .pointer (some ⟨w.heap.size, 0, none⟩)]) (by simp) (by simp [go_sem]) ?_
    refine (idle_foundV _ _ _).mono ?_
    rintro e u' w'' ⟨rfl, rfl, rfl⟩
    refine ⟨foundV (x.1, x.2), ?_, ?_, rfl, ?_⟩
    · simp [results, Try.results27, go_sem, b0]
    · exact (hxx.setCell (.inr (by simp)) _).setCell (.inr (by simp)) _
    · exact (hr2.store (by simp; omega) _).store (by simp; omega) _
  | fail q er =>
    obtain ⟨q0, rfl, hr2⟩ := ho
    go_wp2
    refine leaves_cons (f := 54) (args := #[.pointer (some ⟨w.heap.size + 1, 0, none⟩), .pointer (some ⟨w.heap.size, 0, none⟩)]) (by simp) (by simp [go_sem]) ?_
    refine (thrown_foundV g _ _ q0 q ((0, false)) er s _ _ [] _ hr2 fB fX (by omega) (by omega)).mono ?_
    rintro e u' w'' ⟨rfl, rfl, hr3, hb3, hx3⟩
    refine ⟨foundV ((0, false)), ?_, hxx.own2 hx3 (by omega), rfl, hr3⟩
    have c0 := blk_cell hb3
    simp [results, Try.results27, go_sem, c0]

end Go.Proofs.Ytejialnbelleeaa
