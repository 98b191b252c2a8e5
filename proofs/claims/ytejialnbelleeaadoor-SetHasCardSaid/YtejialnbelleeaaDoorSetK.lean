/-
  Package set: Named.
-/
import Derived.Test.YtejialnbelleeaaDoorSetJ
namespace Go.Proofs.YtejialnbelleeaaDoor
open Go Go.RowKit Go.MapKept

abbrev orL (s : Bs) (l : List Bs) : Bs := l.foldl (fun a b => a ||| b) s
def nameT (A B C D G L N P Q S U X : Bs) : List (List UInt8 × Bs) := [
  ([97, 108, 112, 104, 97], A),
  ([117, 112, 112, 101, 114], U),
  ([108, 111, 119, 101, 114], L),
  ([100, 105, 103, 105, 116], D),
  ([97, 108, 110, 117, 109], N),
  ([120, 100, 105, 103, 105, 116], X),
  ([98, 108, 97, 110, 107], B),
  ([115, 112, 97, 99, 101], S),
  ([99, 110, 116, 114, 108], C),
  ([103, 114, 97, 112, 104], G),
  ([112, 114, 105, 110, 116], P),
  ([112, 117, 110, 99, 116], Q)]
def tabT (A B C D G L N P Q S U X : Bs) (n : ByteArray) : Option Bs := ((nameT A B C D G L N P Q S U X).find? (fun p => p.1 == n.data.toList)).map (·.2)
theorem tabT_ok (A B C D G L N P Q S U X : Bs) : Tab (tabT A B C D G L N P Q S U X) A B C D G L N P Q S U X :=
  ⟨by kernel_rfl, by kernel_rfl, by kernel_rfl, by kernel_rfl, by kernel_rfl, by kernel_rfl, by kernel_rfl, by kernel_rfl, by kernel_rfl, by kernel_rfl, by kernel_rfl, by kernel_rfl⟩

theorem keys_all (A B C D G L N P Q S U X : Bs) {v : Value} {w : World} (h : KeysAt v w) (name : ByteArray) (s : Bs) (hs : tabT A B C D G L N P Q S U X name = some s) : KeyAt name v w := by
  unfold tabT at hs
  cases hf : (nameT A B C D G L N P Q S U X).find? (fun p => p.1 == name.data.toList) with
  | none => rw [hf] at hs; cases hs
  | some p =>
    have h1 := List.mem_of_find?_eq_some hf
    have h2 := List.find?_some hf
    have h3 : p.1 = name.data.toList := by simpa using h2
    have h4 : name = ⟨p.1.toArray⟩ := by rw [h3]
    obtain ⟨k1, k2, k3, k4, k5, k6, k7, k8, k9, k10, k11, k12⟩ := h
    rw [h4]
    simp only [nameT, List.mem_cons, List.not_mem_nil, or_false] at h1
    rcases h1 with rfl | rfl | rfl | rfl | rfl | rfl | rfl | rfl | rfl | rfl | rfl | rfl <;> assumption

/-- The named sets. -/
def tabN : ByteArray → Option Bs := tabT (orL (spanS 65 90) [spanS 97 122]) (listS [9, 32]) (orL (spanS 0 31) [listS [127]]) (spanS 48 57) (spanS 33 126) (spanS 97 122) (orL (orL (spanS 65 90) [spanS 97 122]) [spanS 48 57]) (spanS 32 126)
    (spanS 33 126 &&& ~~~(orL (orL (spanS 65 90) [spanS 97 122]) [spanS 48 57])) (orL (spanS 9 13) [listS [32]]) (spanS 65 90) (orL (spanS 48 57) [spanS 65 70, spanS 97 102])

theorem named_any (w : World) :
    Calls Tryd.prog 56 #[] w fun e w' => ∃ v, e = .returned v ∧ MapAt tabN w.heap.size v w' ∧ KeysAt v w' ∧ Below w.heap.size w w' := by
  refine named_walk tabN _ _ _ _ _ _ _ _ _ _ _ _ (spanS 65 70) (spanS 97 102) (spanS 9 13) (listS [32]) (spanS 0 31) (listS [127]) (tabT_ok _ _ _ _ _ _ _ _ _ _ _ _) ?_ ?_ ?_ ?_ ?_ ?_ ?_ ?_ ?_ ?_ ?_ ?_ ?_ ?_ ?_ ?_ ?_ ?_ w
  · exact fun w => span_any 65 90 w (by decide) (by decide)
  · exact fun w => span_any 97 122 w (by decide) (by decide)
  · exact fun w => span_any 48 57 w (by decide) (by decide)
  · exact fun w => span_any 33 126 w (by decide) (by decide)
  · exact fun w => span_any 65 70 w (by decide) (by decide)
  · exact fun w => span_any 97 102 w (by decide) (by decide)
  · exact fun w => span_any 9 13 w (by decide) (by decide)
  · exact fun w => span_any 0 31 w (by decide) (by decide)
  · exact fun w => span_any 32 126 w (by decide) (by decide)
  · exact fun v w hv => mor_any _ _ v w hv
  · exact fun v w hv => mor_any _ _ v w hv
  · exact fun v w hv => mor_any _ _ v w hv
  · exact fun v w hv => of_any _ v w hv (by decide)
  · exact fun v w hv => of_any _ v w hv (by decide)
  · exact fun v w hv => mor_any _ _ v w hv
  · exact fun v w hv => of_any _ v w hv (by decide)
  · exact fun v w hv => mor_any _ _ v w hv
  · exact fun w => less_any _ _ w

def namedV (name : ByteArray) : Value := match tabN name with
  | some s => .tuple #[setV s, .int .i64 0]
  | none => .tuple #[setV 0#256, .int .i64 110]

theorem zero_set (w : World) : (zeroValue 24).run Tryd.prog w = .ok (setV 0#256) w := by kernel_rfl

set_option maxHeartbeats 1000000 in
theorem Named_any (name : ByteArray) (w : World) :
    Calls Tryd.prog 28 #[.string name] w fun e w' => e = .returned (namedV name) ∧ Below w.heap.size w w' := by
  unfold namedV
  have hna := named_any
  have hta : ∀ v w, KeysAt v w → ∀ s, tabN name = some s → KeyAt name v w := fun v w h s hs => keys_all _ _ _ _ _ _ _ _ _ _ _ _ h name s hs
  have HT := Lib.hid hta
  clear hta
  generalize tabN = tab at *
  have HN := Lib.hid hna
  clear hna
  cases ht : tab name with
  | none =>
    simp only
    go_enter Tryd.func28, Tryd.ntmps28
    go_wp2_with fail
    refine (HN.out _).mono ?_
    rintro e w1 ⟨v, rfl, hm, hk, hb⟩
    have hR : w1.heap[w.heap.size]? = some (.cells (setC 0#256) 24 (0, 0)) := ext_heap (Ext.of_below hb G0) (heap_new w _) (fun x => x)
    have hlk := lookup_good name Tryd.underlying83 Tryd.underlying9 (zero_set w1) hm (fun s hs => HT.out _ _ hk s hs)
    have hx : Ext G0 w w1 := ((Ext.refl _ _).alloc _).trans (Ext.of_below hb G0)
    clear hb hm hk HN HT
    have hl := lt_of_block hR
    have z := blk_free hR
    have hR0 := Lib.hid hR
    obtain ⟨r0, r1, r2, r3⟩ := cells4 hR
    clear hR
    rw [ht] at hlk
    simp only [Option.isSome] at hlk
    clear ht
    go_wp2
    refine bodyPost_ret (v := .tuple #[setV 0#256, .int .i64 110]) (by simp [results, Tryd.results28, go_sem, hl, r0, r1, r2, r3]; exact ⟨rfl, rfl, rfl, rfl⟩) rfl ⟨rfl, ?_⟩
    exact (((((hx.set (Nat.le_refl _) _).set (Nat.le_refl _) _).set (Nat.le_refl _) _).set (Nat.le_refl _) _).alloc _).below
  | some s =>
    simp only
    go_enter Tryd.func28, Tryd.ntmps28
    go_wp2_with fail
    refine (HN.out _).mono ?_
    rintro e w1 ⟨v, rfl, hm, hk, hb⟩
    have hR : w1.heap[w.heap.size]? = some (.cells (setC 0#256) 24 (0, 0)) := ext_heap (Ext.of_below hb G0) (heap_new w _) (fun x => x)
    have hlk := lookup_good name Tryd.underlying83 Tryd.underlying9 (zero_set w1) hm (fun s hs => HT.out _ _ hk s hs)
    have hx : Ext G0 w w1 := ((Ext.refl _ _).alloc _).trans (Ext.of_below hb G0)
    clear hb hm hk HN HT
    have hl := lt_of_block hR
    have z := blk_free hR
    have hR0 := Lib.hid hR
    obtain ⟨r0, r1, r2, r3⟩ := cells4 hR
    clear hR
    rw [ht] at hlk
    simp only [Option.isSome] at hlk
    clear ht
    go_wp2
    refine bodyPost_ret (v := .tuple #[setV s, .int .i64 0]) (by simp [results, Tryd.results28, go_sem, hl, r0, r1, r2, r3]) rfl ⟨rfl, ?_⟩
    exact (((((hx.set (Nat.le_refl _) _).set (Nat.le_refl _) _).set (Nat.le_refl _) _).set (Nat.le_refl _) _).alloc _).below

end Go.Proofs.YtejialnbelleeaaDoor
