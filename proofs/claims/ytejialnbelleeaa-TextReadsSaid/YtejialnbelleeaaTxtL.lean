/-
  Package text: End, Fail, Want, While, Is, Number, Hex. Printed by wip/tools/mk_txtl.py.
-/
import Derived.Test.YtejialnbelleeaaTxtK
namespace Go.Proofs.Ytejialnbelleeaa
open Go Go.RowKit

def Res.val {α : Type} (z : α) : Res α → α
  | .ok x _ => x
  | .fail _ _ => z
def Res.pos {α : Type} : Res α → Nat
  | .ok _ p => p
  | .fail p _ => p
def Res.err {α : Type} : Res α → Int
  | .ok _ _ => 0
  | .fail _ e => e
/-- A step of a reader that may have failed. -/
def stepR {α : Type} (p : Nat) (er : Int) (r : Res α) : Res α := if er = 0 then r else .fail p er

set_option maxHeartbeats 2000000 in
theorem End_any (g p : Nat) (s : ByteArray) (er : Int)  (w : World) (hr : RdAt w g s p er) (hp : p ≤ s.size)  :
    Calls Try.prog 20 #[.pointer (some ⟨g, 0, none⟩)] w fun e w' => e = .returned (boolV ((stepR p er (endR s p)).val (false))) ∧ RdAt w' g s (stepR p er (endR s p)).pos (stepR p er (endR s p)).err ∧ Ext (G1 g) w w' := by
  have hmf : ∀ (fn : Fn) (first cap : Array Value) (w : World), (Instr.makeFunc fn first cap).run Try.prog w = .ok (.func fn first cap) w := fun _ _ _ _ => rfl
  by_cases he : er = 0
  · subst he
    obtain ⟨rr, hrr⟩ : ∃ rr, rr = endR s p := ⟨_, rfl⟩
    rw [← hrr, show stepR p 0 rr = rr from if_pos rfl]
    have HRR := Lib.hid hrr
    clear hrr
    have hlg := hr.lt
    go_enter Try.func20, Try.ntmps20
    go_wp2_with fail
    generalize hwz : World.alloc w _ = wz
    have f0 : wz.heap[w.heap.size]? = some (.cells (#[.pointer (some ⟨g, 0, none⟩)]) 29 (0, 0)) := by rw [← hwz]; exact heap_new _ _
    have hx0 : Ext G0 w wz := by rw [← hwz]; exact (Ext.refl _ _).alloc _
    have hr0 := hr.ext hx0 (fun x => x)
    clear hwz
    refine (reads_boolV _ _ g p s _ rr (fun w => by kernel_rfl) hr0 ?_).mono ?_
    · intro w1 hw
      rw [HRR.out]
      exact End1_any g p (w.heap.size) s w1 (hr0.ext hw (fun x => x)) (ext_heap hw f0 (fun x => x)) hp
    · rintro e w2 ⟨hx, hf⟩
      have hxx := (hx0.up (G1 g)).trans hx
      clear HRR
      cases rr with
      | ok x q =>
        obtain ⟨rfl, hr2⟩ := hf
        go_wp2
        go_ret
        exact ⟨rfl, hr2, hxx⟩
      | fail q e2 =>
        obtain ⟨rfl, hr2⟩ := hf
        go_wp2
        go_ret
        exact ⟨rfl, hr2, hxx⟩
  · rw [show stepR p er (endR s p) = .fail p er from if_neg he]
    go_enter Try.func20, Try.ntmps20
    go_wp2_with fail
    generalize hwz : World.alloc w _ = wz
    have hx0 : Ext G0 w wz := by rw [← hwz]; exact (Ext.refl _ _).alloc _
    clear hwz
    have hr0 := hr.ext hx0 (fun x => x)
    refine (readsF_boolV g p s er _ _ hr0 he).mono ?_
    rintro e w2 ⟨rfl, hx⟩
    have hxx := hx0.trans (Ext.of_below hx G0)
    have hr2 := hr.ext hxx (fun x => x)
    go_wp2
    go_ret
    exact ⟨rfl, hr2, hxx.up _⟩
theorem End_nil  (w : World) :
    Calls Try.prog 20 #[.pointer none] w fun e w' => e = .returned (boolV (false)) ∧ Ext G0 w w' := by
  have hmf : ∀ (fn : Fn) (first cap : Array Value) (w : World), (Instr.makeFunc fn first cap).run Try.prog w = .ok (.func fn first cap) w := fun _ _ _ _ => rfl
  go_enter Try.func20, Try.ntmps20
  go_wp2_with fail
  generalize hwz : World.alloc w _ = wz
  have hx0 : Ext G0 w wz := by rw [← hwz]; exact (Ext.refl _ _).alloc _
  clear hwz
  refine (readsN_boolV _ _).mono ?_
  rintro e w2 ⟨rfl, hx⟩
  have hxx := hx0.trans (Ext.of_below hx G0)
  go_wp2
  go_ret
  exact ⟨rfl, hxx⟩

set_option maxHeartbeats 2000000 in
theorem Fail_any (g p : Nat) (s : ByteArray) (er : Int) (at_ fe : Int) (w : World) (hr : RdAt w g s p er)   :
    Calls Try.prog 11 #[.pointer (some ⟨g, 0, none⟩), .int .i64 at_, .int .i64 fe] w fun e w' => e = .returned (.tuple #[]) ∧ RdAt w' g s (stepR p er (failR s p at_ fe)).pos (stepR p er (failR s p at_ fe)).err ∧ Ext (G1 g) w w' := by
  have hmf : ∀ (fn : Fn) (first cap : Array Value) (w : World), (Instr.makeFunc fn first cap).run Try.prog w = .ok (.func fn first cap) w := fun _ _ _ _ => rfl
  by_cases he : er = 0
  · subst he
    obtain ⟨rr, hrr⟩ : ∃ rr, rr = failR s p at_ fe := ⟨_, rfl⟩
    rw [← hrr, show stepR p 0 rr = rr from if_pos rfl]
    have HRR := Lib.hid hrr
    clear hrr
    have hlg := hr.lt
    go_enter Try.func11, Try.ntmps11
    go_wp2_with fail
    generalize hwz : World.alloc (World.alloc (World.alloc w _) _) _ = wz
    have f0 : wz.heap[w.heap.size]? = some (.cells (#[.pointer (some ⟨g, 0, none⟩)]) 29 (0, 0)) := by rw [← hwz]; exact heap_past (heap_two' w _ _) _
    have f1 : wz.heap[w.heap.size + 1]? = some (.cells (#[.int .i64 at_]) 3 (0, 0)) := by rw [← hwz]; exact heap_past (heap_two w _ _) _
    have f2 : wz.heap[w.heap.size + 1 + 1]? = some (.cells (#[.int .i64 fe]) 32 (0, 0)) := by rw [← hwz]; exact heap_at _ _ _ (by simp)
    have hx0 : Ext G0 w wz := by rw [← hwz]; exact (((Ext.refl _ _).alloc _).alloc _).alloc _
    have hr0 := hr.ext hx0 (fun x => x)
    clear hwz
    refine (reads_boolV _ _ g p s _ rr (fun w => by kernel_rfl) hr0 ?_).mono ?_
    · intro w1 hw
      rw [HRR.out]
      exact Fail1_any g p (w.heap.size + 1 + 1) (w.heap.size + 1) (w.heap.size) at_ fe s w1 (hr0.ext hw (fun x => x)) (ext_heap hw f0 (fun x => x)) (ext_heap hw f2 (fun x => x)) (ext_heap hw f1 (fun x => x))
    · rintro e w2 ⟨hx, hf⟩
      have hxx := (hx0.up (G1 g)).trans hx
      clear HRR
      cases rr with
      | ok x q =>
        obtain ⟨rfl, hr2⟩ := hf
        go_wp2
        go_end0
        exact ⟨rfl, hr2, hxx⟩
      | fail q e2 =>
        obtain ⟨rfl, hr2⟩ := hf
        go_wp2
        go_end0
        exact ⟨rfl, hr2, hxx⟩
  · rw [show stepR p er (failR s p at_ fe) = .fail p er from if_neg he]
    go_enter Try.func11, Try.ntmps11
    go_wp2_with fail
    generalize hwz : World.alloc (World.alloc (World.alloc w _) _) _ = wz
    have hx0 : Ext G0 w wz := by rw [← hwz]; exact (((Ext.refl _ _).alloc _).alloc _).alloc _
    clear hwz
    have hr0 := hr.ext hx0 (fun x => x)
    refine (readsF_boolV g p s er _ _ hr0 he).mono ?_
    rintro e w2 ⟨rfl, hx⟩
    have hxx := hx0.trans (Ext.of_below hx G0)
    have hr2 := hr.ext hxx (fun x => x)
    go_wp2
    go_end0
    exact ⟨rfl, hr2, hxx.up _⟩
theorem Fail_nil (at_ fe : Int) (w : World) :
    Calls Try.prog 11 #[.pointer none, .int .i64 at_, .int .i64 fe] w fun e w' => e = .returned (.tuple #[]) ∧ Ext G0 w w' := by
  have hmf : ∀ (fn : Fn) (first cap : Array Value) (w : World), (Instr.makeFunc fn first cap).run Try.prog w = .ok (.func fn first cap) w := fun _ _ _ _ => rfl
  go_enter Try.func11, Try.ntmps11
  go_wp2_with fail
  generalize hwz : World.alloc (World.alloc (World.alloc w _) _) _ = wz
  have hx0 : Ext G0 w wz := by rw [← hwz]; exact (((Ext.refl _ _).alloc _).alloc _).alloc _
  clear hwz
  refine (readsN_boolV _ _).mono ?_
  rintro e w2 ⟨rfl, hx⟩
  have hxx := hx0.trans (Ext.of_below hx G0)
  go_wp2
  go_end0
  exact ⟨rfl, hxx⟩

set_option maxHeartbeats 2000000 in
theorem Want_any (g p : Nat) (s : ByteArray) (er : Int) (word : ByteArray) (w : World) (hr : RdAt w g s p er) (hp : p ≤ s.size) (hs : s.size ≤ 140737488351232) (hwd : word.size ≤ 140737488351232) :
    Calls Try.prog 16 #[.pointer (some ⟨g, 0, none⟩), .string word] w fun e w' => e = .returned (boolV ((stepR p er (wantR s word p)).val (false))) ∧ RdAt w' g s (stepR p er (wantR s word p)).pos (stepR p er (wantR s word p)).err ∧ Ext (G1 g) w w' := by
  have hmf : ∀ (fn : Fn) (first cap : Array Value) (w : World), (Instr.makeFunc fn first cap).run Try.prog w = .ok (.func fn first cap) w := fun _ _ _ _ => rfl
  by_cases he : er = 0
  · subst he
    obtain ⟨rr, hrr⟩ : ∃ rr, rr = wantR s word p := ⟨_, rfl⟩
    rw [← hrr, show stepR p 0 rr = rr from if_pos rfl]
    have HRR := Lib.hid hrr
    clear hrr
    have hlg := hr.lt
    go_enter Try.func16, Try.ntmps16
    go_wp2_with fail
    generalize hwz : World.alloc (World.alloc w _) _ = wz
    have f0 : wz.heap[w.heap.size]? = some (.cells (#[.pointer (some ⟨g, 0, none⟩)]) 29 (0, 0)) := by rw [← hwz]; exact heap_two' w _ _
    have f1 : wz.heap[w.heap.size + 1]? = some (.cells (#[.string word]) 9 (0, 0)) := by rw [← hwz]; exact heap_two w _ _
    have hx0 : Ext G0 w wz := by rw [← hwz]; exact ((Ext.refl _ _).alloc _).alloc _
    have hr0 := hr.ext hx0 (fun x => x)
    clear hwz
    refine (reads_boolV _ _ g p s _ rr (fun w => by kernel_rfl) hr0 ?_).mono ?_
    · intro w1 hw
      rw [HRR.out]
      exact Want1_any g p (w.heap.size) (w.heap.size + 1) s word w1 (hr0.ext hw (fun x => x)) (ext_heap hw f0 (fun x => x)) hp hs (ext_heap hw f1 (fun x => x)) hwd
    · rintro e w2 ⟨hx, hf⟩
      have hxx := (hx0.up (G1 g)).trans hx
      clear HRR
      cases rr with
      | ok x q =>
        obtain ⟨rfl, hr2⟩ := hf
        go_wp2
        go_ret
        exact ⟨rfl, hr2, hxx⟩
      | fail q e2 =>
        obtain ⟨rfl, hr2⟩ := hf
        go_wp2
        go_ret
        exact ⟨rfl, hr2, hxx⟩
  · rw [show stepR p er (wantR s word p) = .fail p er from if_neg he]
    go_enter Try.func16, Try.ntmps16
    go_wp2_with fail
    generalize hwz : World.alloc (World.alloc w _) _ = wz
    have hx0 : Ext G0 w wz := by rw [← hwz]; exact ((Ext.refl _ _).alloc _).alloc _
    clear hwz
    have hr0 := hr.ext hx0 (fun x => x)
    refine (readsF_boolV g p s er _ _ hr0 he).mono ?_
    rintro e w2 ⟨rfl, hx⟩
    have hxx := hx0.trans (Ext.of_below hx G0)
    have hr2 := hr.ext hxx (fun x => x)
    go_wp2
    go_ret
    exact ⟨rfl, hr2, hxx.up _⟩
theorem Want_nil (word : ByteArray) (w : World) :
    Calls Try.prog 16 #[.pointer none, .string word] w fun e w' => e = .returned (boolV (false)) ∧ Ext G0 w w' := by
  have hmf : ∀ (fn : Fn) (first cap : Array Value) (w : World), (Instr.makeFunc fn first cap).run Try.prog w = .ok (.func fn first cap) w := fun _ _ _ _ => rfl
  go_enter Try.func16, Try.ntmps16
  go_wp2_with fail
  generalize hwz : World.alloc (World.alloc w _) _ = wz
  have hx0 : Ext G0 w wz := by rw [← hwz]; exact ((Ext.refl _ _).alloc _).alloc _
  clear hwz
  refine (readsN_boolV _ _).mono ?_
  rintro e w2 ⟨rfl, hx⟩
  have hxx := hx0.trans (Ext.of_below hx G0)
  go_wp2
  go_ret
  exact ⟨rfl, hxx⟩

set_option maxHeartbeats 2000000 in
theorem While_any (g p : Nat) (s : ByteArray) (er : Int) (a : Bs) (w : World) (hr : RdAt w g s p er) (hp : p ≤ s.size) (hs : s.size ≤ 140737488351232)  :
    Calls Try.prog 15 #[.pointer (some ⟨g, 0, none⟩), setV a] w fun e w' => e = .returned (strV ((stepR p er (whileR s a p)).val (⟨#[]⟩))) ∧ RdAt w' g s (stepR p er (whileR s a p)).pos (stepR p er (whileR s a p)).err ∧ Ext (G1 g) w w' := by
  have hmf : ∀ (fn : Fn) (first cap : Array Value) (w : World), (Instr.makeFunc fn first cap).run Try.prog w = .ok (.func fn first cap) w := fun _ _ _ _ => rfl
  by_cases he : er = 0
  · subst he
    obtain ⟨rr, hrr⟩ : ∃ rr, rr = whileR s a p := ⟨_, rfl⟩
    rw [← hrr, show stepR p 0 rr = rr from if_pos rfl]
    have HRR := Lib.hid hrr
    clear hrr
    have hlg := hr.lt
    go_enter Try.func15, Try.ntmps15
    go_wp2_with fail
    generalize hwz : World.alloc (World.alloc w _) _ = wz
    have f0 : wz.heap[w.heap.size]? = some (.cells (#[.pointer (some ⟨g, 0, none⟩)]) 29 (0, 0)) := by rw [← hwz]; exact heap_two' w _ _
    have f1 : wz.heap[w.heap.size + 1]? = some (.cells (setC a) 25 (0, 0)) := by rw [← hwz]; exact heap_two w _ _
    have hx0 : Ext G0 w wz := by rw [← hwz]; exact ((Ext.refl _ _).alloc _).alloc _
    have hr0 := hr.ext hx0 (fun x => x)
    clear hwz
    refine (reads_strV _ _ g p s _ rr (fun w => by kernel_rfl) hr0 ?_).mono ?_
    · intro w1 hw
      rw [HRR.out]
      exact While1_any g p (w.heap.size) (w.heap.size + 1) s a w1 (hr0.ext hw (fun x => x)) (ext_heap hw f0 (fun x => x)) hp hs (ext_heap hw f1 (fun x => x)) (by omega) (by omega)
    · rintro e w2 ⟨hx, hf⟩
      have hxx := (hx0.up (G1 g)).trans hx
      clear HRR
      cases rr with
      | ok x q =>
        obtain ⟨rfl, hr2⟩ := hf
        go_wp2
        go_ret
        exact ⟨rfl, hr2, hxx⟩
      | fail q e2 =>
        obtain ⟨rfl, hr2⟩ := hf
        go_wp2
        go_ret
        exact ⟨rfl, hr2, hxx⟩
  · rw [show stepR p er (whileR s a p) = .fail p er from if_neg he]
    go_enter Try.func15, Try.ntmps15
    go_wp2_with fail
    generalize hwz : World.alloc (World.alloc w _) _ = wz
    have hx0 : Ext G0 w wz := by rw [← hwz]; exact ((Ext.refl _ _).alloc _).alloc _
    clear hwz
    have hr0 := hr.ext hx0 (fun x => x)
    refine (readsF_strV g p s er _ _ hr0 he).mono ?_
    rintro e w2 ⟨rfl, hx⟩
    have hxx := hx0.trans (Ext.of_below hx G0)
    have hr2 := hr.ext hxx (fun x => x)
    go_wp2
    go_ret
    exact ⟨rfl, hr2, hxx.up _⟩
theorem While_nil (a : Bs) (w : World) :
    Calls Try.prog 15 #[.pointer none, setV a] w fun e w' => e = .returned (strV (⟨#[]⟩)) ∧ Ext G0 w w' := by
  have hmf : ∀ (fn : Fn) (first cap : Array Value) (w : World), (Instr.makeFunc fn first cap).run Try.prog w = .ok (.func fn first cap) w := fun _ _ _ _ => rfl
  go_enter Try.func15, Try.ntmps15
  go_wp2_with fail
  generalize hwz : World.alloc (World.alloc w _) _ = wz
  have hx0 : Ext G0 w wz := by rw [← hwz]; exact ((Ext.refl _ _).alloc _).alloc _
  clear hwz
  refine (readsN_strV _ _).mono ?_
  rintro e w2 ⟨rfl, hx⟩
  have hxx := hx0.trans (Ext.of_below hx G0)
  go_wp2
  go_ret
  exact ⟨rfl, hxx⟩

set_option maxHeartbeats 2000000 in
theorem Is_any (g p : Nat) (s : ByteArray) (er : Int) (l0 : List ByteArray) (A : Option Addr) (c : Nat) (w : World) (hr : RdAt w g s p er) (hp : p ≤ s.size) (hs : s.size ≤ 140737488351232) (hv : StrsAt w (.slice A l0.length c) l0) (hl : ∀ t ∈ l0, t.size ≤ 140737488351232) :
    Calls Try.prog 14 #[.pointer (some ⟨g, 0, none⟩), .slice A l0.length c] w fun e w' => e = .returned (intV ((stepR p er (isL (mets s p 0 l0) p)).val (0))) ∧ RdAt w' g s (stepR p er (isL (mets s p 0 l0) p)).pos (stepR p er (isL (mets s p 0 l0) p)).err ∧ Ext (G1 g) w w' := by
  have hmf : ∀ (fn : Fn) (first cap : Array Value) (w : World), (Instr.makeFunc fn first cap).run Try.prog w = .ok (.func fn first cap) w := fun _ _ _ _ => rfl
  by_cases he : er = 0
  · subst he
    obtain ⟨rr, hrr⟩ : ∃ rr, rr = isL (mets s p 0 l0) p := ⟨_, rfl⟩
    rw [← hrr, show stepR p 0 rr = rr from if_pos rfl]
    have HRR := Lib.hid hrr
    clear hrr
    have hlg := hr.lt
    have HV := Lib.hid hv
    have HL := Lib.hid hl
    clear hv hl
    go_enter Try.func14, Try.ntmps14
    go_wp2_with fail
    generalize hwz : World.alloc (World.alloc w _) _ = wz
    have f0 : wz.heap[w.heap.size]? = some (.cells (#[.pointer (some ⟨g, 0, none⟩)]) 29 (0, 0)) := by rw [← hwz]; exact heap_two' w _ _
    have f1 : wz.heap[w.heap.size + 1]? = some (.cells (#[.slice A l0.length c]) 22 (0, 0)) := by rw [← hwz]; exact heap_two w _ _
    have hx0 : Ext G0 w wz := by rw [← hwz]; exact ((Ext.refl _ _).alloc _).alloc _
    have hr0 := hr.ext hx0 (fun x => x)
    clear hwz
    refine (reads_intV _ _ g p s _ rr (fun w => by kernel_rfl) hr0 ?_).mono ?_
    · intro w1 hw
      rw [HRR.out]
      exact Is1_any g p (w.heap.size) (w.heap.size + 1) s l0 A c w1 (hr0.ext hw (fun x => x)) hp hs (ext_heap hw f0 (fun x => x)) (ext_heap hw f1 (fun x => x)) ((HV.out.ext hx0).ext hw) HL.out
    · rintro e w2 ⟨hx, hf⟩
      have hxx := (hx0.up (G1 g)).trans hx
      clear HRR
      cases rr with
      | ok x q =>
        obtain ⟨rfl, hr2⟩ := hf
        go_wp2
        go_ret
        exact ⟨rfl, hr2, hxx⟩
      | fail q e2 =>
        obtain ⟨rfl, hr2⟩ := hf
        go_wp2
        go_ret
        exact ⟨rfl, hr2, hxx⟩
  · rw [show stepR p er (isL (mets s p 0 l0) p) = .fail p er from if_neg he]
    clear hv hl
    go_enter Try.func14, Try.ntmps14
    go_wp2_with fail
    generalize hwz : World.alloc (World.alloc w _) _ = wz
    have hx0 : Ext G0 w wz := by rw [← hwz]; exact ((Ext.refl _ _).alloc _).alloc _
    clear hwz
    have hr0 := hr.ext hx0 (fun x => x)
    refine (readsF_intV g p s er _ _ hr0 he).mono ?_
    rintro e w2 ⟨rfl, hx⟩
    have hxx := hx0.trans (Ext.of_below hx G0)
    have hr2 := hr.ext hxx (fun x => x)
    go_wp2
    go_ret
    exact ⟨rfl, hr2, hxx.up _⟩
theorem Is_nil (l0 : List ByteArray) (A : Option Addr) (c : Nat) (w : World) :
    Calls Try.prog 14 #[.pointer none, .slice A l0.length c] w fun e w' => e = .returned (intV (0)) ∧ Ext G0 w w' := by
  have hmf : ∀ (fn : Fn) (first cap : Array Value) (w : World), (Instr.makeFunc fn first cap).run Try.prog w = .ok (.func fn first cap) w := fun _ _ _ _ => rfl
  go_enter Try.func14, Try.ntmps14
  go_wp2_with fail
  generalize hwz : World.alloc (World.alloc w _) _ = wz
  have hx0 : Ext G0 w wz := by rw [← hwz]; exact ((Ext.refl _ _).alloc _).alloc _
  clear hwz
  refine (readsN_intV _ _).mono ?_
  rintro e w2 ⟨rfl, hx⟩
  have hxx := hx0.trans (Ext.of_below hx G0)
  go_wp2
  go_ret
  exact ⟨rfl, hxx⟩

set_option maxHeartbeats 2000000 in
theorem Number_any (g p : Nat) (s : ByteArray) (er : Int) (gr : Int) (pl : Bool) (w : World) (hr : RdAt w g s p er) (hp : p ≤ s.size) (hs : s.size ≤ 140737488351232) (hgr : gr ≤ 9223372036854775807) :
    Calls Try.prog 18 #[.pointer (some ⟨g, 0, none⟩), .int .i64 gr, .bool pl] w fun e w' => e = .returned (intV ((stepR p er (numR s p gr pl)).val (0))) ∧ RdAt w' g s (stepR p er (numR s p gr pl)).pos (stepR p er (numR s p gr pl)).err ∧ Ext (G1 g) w w' := by
  have hmf : ∀ (fn : Fn) (first cap : Array Value) (w : World), (Instr.makeFunc fn first cap).run Try.prog w = .ok (.func fn first cap) w := fun _ _ _ _ => rfl
  have HGR := Lib.hid hgr
  clear hgr
  by_cases he : er = 0
  · subst he
    obtain ⟨rr, hrr⟩ : ∃ rr, rr = numR s p gr pl := ⟨_, rfl⟩
    rw [← hrr, show stepR p 0 rr = rr from if_pos rfl]
    have HRR := Lib.hid hrr
    clear hrr
    have hlg := hr.lt
    go_enter Try.func18, Try.ntmps18
    go_wp2_with fail
    generalize hwz : World.alloc (World.alloc (World.alloc w _) _) _ = wz
    have f0 : wz.heap[w.heap.size]? = some (.cells (#[.pointer (some ⟨g, 0, none⟩)]) 29 (0, 0)) := by rw [← hwz]; exact heap_past (heap_two' w _ _) _
    have f1 : wz.heap[w.heap.size + 1]? = some (.cells (#[.int .i64 gr]) 3 (0, 0)) := by rw [← hwz]; exact heap_past (heap_two w _ _) _
    have f2 : wz.heap[w.heap.size + 1 + 1]? = some (.cells (#[.bool pl]) 4 (0, 0)) := by rw [← hwz]; exact heap_at _ _ _ (by simp)
    have hx0 : Ext G0 w wz := by rw [← hwz]; exact (((Ext.refl _ _).alloc _).alloc _).alloc _
    have hr0 := hr.ext hx0 (fun x => x)
    clear hwz
    refine (reads_intV _ _ g p s _ rr (fun w => by kernel_rfl) hr0 ?_).mono ?_
    · intro w1 hw
      rw [HRR.out]
      exact Number1_any g p (w.heap.size) (w.heap.size + 1) (w.heap.size + 1 + 1) s gr pl w1 (hr0.ext hw (fun x => x)) (ext_heap hw f0 (fun x => x)) hp hs (ext_heap hw f1 (fun x => x)) (ext_heap hw f2 (fun x => x)) (by omega) (by omega) (by omega) HGR.out
    · rintro e w2 ⟨hx, hf⟩
      have hxx := (hx0.up (G1 g)).trans hx
      clear HRR
      cases rr with
      | ok x q =>
        obtain ⟨rfl, hr2⟩ := hf
        go_wp2
        go_ret
        exact ⟨rfl, hr2, hxx⟩
      | fail q e2 =>
        obtain ⟨rfl, hr2⟩ := hf
        go_wp2
        go_ret
        exact ⟨rfl, hr2, hxx⟩
  · rw [show stepR p er (numR s p gr pl) = .fail p er from if_neg he]
    go_enter Try.func18, Try.ntmps18
    go_wp2_with fail
    generalize hwz : World.alloc (World.alloc (World.alloc w _) _) _ = wz
    have hx0 : Ext G0 w wz := by rw [← hwz]; exact (((Ext.refl _ _).alloc _).alloc _).alloc _
    clear hwz
    have hr0 := hr.ext hx0 (fun x => x)
    refine (readsF_intV g p s er _ _ hr0 he).mono ?_
    rintro e w2 ⟨rfl, hx⟩
    have hxx := hx0.trans (Ext.of_below hx G0)
    have hr2 := hr.ext hxx (fun x => x)
    go_wp2
    go_ret
    exact ⟨rfl, hr2, hxx.up _⟩
theorem Number_nil (gr : Int) (pl : Bool) (w : World) :
    Calls Try.prog 18 #[.pointer none, .int .i64 gr, .bool pl] w fun e w' => e = .returned (intV (0)) ∧ Ext G0 w w' := by
  have hmf : ∀ (fn : Fn) (first cap : Array Value) (w : World), (Instr.makeFunc fn first cap).run Try.prog w = .ok (.func fn first cap) w := fun _ _ _ _ => rfl
  go_enter Try.func18, Try.ntmps18
  go_wp2_with fail
  generalize hwz : World.alloc (World.alloc (World.alloc w _) _) _ = wz
  have hx0 : Ext G0 w wz := by rw [← hwz]; exact (((Ext.refl _ _).alloc _).alloc _).alloc _
  clear hwz
  refine (readsN_intV _ _).mono ?_
  rintro e w2 ⟨rfl, hx⟩
  have hxx := hx0.trans (Ext.of_below hx G0)
  go_wp2
  go_ret
  exact ⟨rfl, hxx⟩

set_option maxHeartbeats 2000000 in
theorem Hex_any (g p : Nat) (s : ByteArray) (er : Int) (dg : Int) (w : World) (hr : RdAt w g s p er) (hp : p ≤ s.size) (hs : s.size ≤ 140737488351232)  :
    Calls Try.prog 19 #[.pointer (some ⟨g, 0, none⟩), .int .i64 dg] w fun e w' => e = .returned (intV ((stepR p er (hexR s p dg)).val (0))) ∧ RdAt w' g s (stepR p er (hexR s p dg)).pos (stepR p er (hexR s p dg)).err ∧ Ext (G1 g) w w' := by
  have hmf : ∀ (fn : Fn) (first cap : Array Value) (w : World), (Instr.makeFunc fn first cap).run Try.prog w = .ok (.func fn first cap) w := fun _ _ _ _ => rfl
  by_cases he : er = 0
  · subst he
    obtain ⟨rr, hrr⟩ : ∃ rr, rr = hexR s p dg := ⟨_, rfl⟩
    rw [← hrr, show stepR p 0 rr = rr from if_pos rfl]
    have HRR := Lib.hid hrr
    clear hrr
    have hlg := hr.lt
    go_enter Try.func19, Try.ntmps19
    go_wp2_with fail
    generalize hwz : World.alloc (World.alloc w _) _ = wz
    have f0 : wz.heap[w.heap.size]? = some (.cells (#[.pointer (some ⟨g, 0, none⟩)]) 29 (0, 0)) := by rw [← hwz]; exact heap_two' w _ _
    have f1 : wz.heap[w.heap.size + 1]? = some (.cells (#[.int .i64 dg]) 3 (0, 0)) := by rw [← hwz]; exact heap_two w _ _
    have hx0 : Ext G0 w wz := by rw [← hwz]; exact ((Ext.refl _ _).alloc _).alloc _
    have hr0 := hr.ext hx0 (fun x => x)
    clear hwz
    refine (reads_intV _ _ g p s _ rr (fun w => by kernel_rfl) hr0 ?_).mono ?_
    · intro w1 hw
      rw [HRR.out]
      exact Hex1_any g p (w.heap.size) (w.heap.size + 1) s dg w1 (hr0.ext hw (fun x => x)) (ext_heap hw f0 (fun x => x)) hp hs (ext_heap hw f1 (fun x => x)) (by omega)
    · rintro e w2 ⟨hx, hf⟩
      have hxx := (hx0.up (G1 g)).trans hx
      clear HRR
      cases rr with
      | ok x q =>
        obtain ⟨rfl, hr2⟩ := hf
        go_wp2
        go_ret
        exact ⟨rfl, hr2, hxx⟩
      | fail q e2 =>
        obtain ⟨rfl, hr2⟩ := hf
        go_wp2
        go_ret
        exact ⟨rfl, hr2, hxx⟩
  · rw [show stepR p er (hexR s p dg) = .fail p er from if_neg he]
    go_enter Try.func19, Try.ntmps19
    go_wp2_with fail
    generalize hwz : World.alloc (World.alloc w _) _ = wz
    have hx0 : Ext G0 w wz := by rw [← hwz]; exact ((Ext.refl _ _).alloc _).alloc _
    clear hwz
    have hr0 := hr.ext hx0 (fun x => x)
    refine (readsF_intV g p s er _ _ hr0 he).mono ?_
    rintro e w2 ⟨rfl, hx⟩
    have hxx := hx0.trans (Ext.of_below hx G0)
    have hr2 := hr.ext hxx (fun x => x)
    go_wp2
    go_ret
    exact ⟨rfl, hr2, hxx.up _⟩
theorem Hex_nil (dg : Int) (w : World) :
    Calls Try.prog 19 #[.pointer none, .int .i64 dg] w fun e w' => e = .returned (intV (0)) ∧ Ext G0 w w' := by
  have hmf : ∀ (fn : Fn) (first cap : Array Value) (w : World), (Instr.makeFunc fn first cap).run Try.prog w = .ok (.func fn first cap) w := fun _ _ _ _ => rfl
  go_enter Try.func19, Try.ntmps19
  go_wp2_with fail
  generalize hwz : World.alloc (World.alloc w _) _ = wz
  have hx0 : Ext G0 w wz := by rw [← hwz]; exact ((Ext.refl _ _).alloc _).alloc _
  clear hwz
  refine (readsN_intV _ _).mono ?_
  rintro e w2 ⟨rfl, hx⟩
  have hxx := hx0.trans (Ext.of_below hx G0)
  go_wp2
  go_ret
  exact ⟨rfl, hxx⟩

end Go.Proofs.Ytejialnbelleeaa
