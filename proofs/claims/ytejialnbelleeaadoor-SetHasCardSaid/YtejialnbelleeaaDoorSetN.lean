/-
  The law's 'wakes'.
-/
import Derived.Test.YtejialnbelleeaaDoorSetM
namespace Go.Proofs.YtejialnbelleeaaDoor
open Go Go.RowKit

theorem bytes_new (w : World) (l : List Nat) (cs : List Value) (h : l.flatMap byteL = cs) (hm : (l.length : Int) ≤ 140737488351232) : BytesAt (w.alloc (.cells cs.toArray 5)) (.slice (some ⟨w.heap.size, 0, none⟩) l.length l.length) l :=
  SlAt.new l cs _ _ h (fun _ _ => rfl) (Nat.le_refl _) hm
theorem runs_new (w : World) (l : List RunN) (cs : List Value) (h : l.flatMap runL = cs) (hm : (l.length : Int) ≤ 140737488351232) : RunsAt (w.alloc (.cells cs.toArray 32)) (.slice (some ⟨w.heap.size, 0, none⟩) l.length l.length) l :=
  SlAt.new l cs _ _ h (fun _ _ => rfl) (Nat.le_refl _) hm

/-- What a call has built reads as a row. -/
theorem SlAt.of_owns {α : Type} {sz : Nat} {enc : α → List Value} {base : Nat} {e : TypeId} {w : World} {v : Value} {l : List α} (hsz : ∀ x ∈ l, (enc x).length = sz) (h : w.ownsRow base e sz v l.length (l.flatMap enc)) (hm : (l.length : Int) ≤ 140737488351232) : SlAt sz enc w v l := by
  rcases h.2 with ⟨rfl, h0⟩ | ⟨g, cap, cur, rfl, hb, hg, hnc, hcm, hcs, htake⟩
  · have : l = [] := List.length_eq_zero_iff.1 h0
    subst this
    exact ⟨none, 0, rfl, ⟨Nat.le_refl _, by simp⟩, .inl rfl⟩
  · refine ⟨some ⟨g, 0, none⟩, cap, rfl, ⟨hnc, hm⟩, .inr ⟨g, 0, rfl, fun i x hi j y hj => ?_⟩⟩
    have hf := flat_get sz enc l hsz i x hi j y hj
    rw [blk_cell hg, Nat.zero_add]
    rw [← htake, List.getElem?_take] at hf
    split at hf
    · simpa using hf
    · cases hf

theorem equalR_same (l : List RunN) (va vb : Value) (w : World) (ha : RunsAt w va l) (hb : RunsAt w vb l) :
    Calls Tryd.prog 18 #[va, vb] w fun e w' => e = .returned (.bool true) ∧ Below w.heap.size w w' := by
  have := equalR_any l l va vb w ha hb
  rwa [decide_eq_true rfl] at this
theorem equalB_same (l : List Nat) (va vb : Value) (w : World) (ha : BytesAt w va l) (hb : BytesAt w vb l) :
    Calls Tryd.prog 39 #[va, vb] w fun e w' => e = .returned (.bool true) ∧ Below w.heap.size w w' := by
  have := equalB_any l l va vb w ha hb
  rwa [decide_eq_true rfl] at this

set_option maxRecDepth 100000 in
set_option maxHeartbeats 4000000 in
theorem wakes_walk (SA SB SS SP S1 S2 F0 F1 : Bs) (w : World) (htab : TabOk w)
    (hA : ∀ v w, BytesAt w v [65, 64, 65] → Calls Tryd.prog 13 #[v] w fun e w' => e = .returned (setV SA) ∧ Below w.heap.size w w')
    (hB : ∀ w, Calls Tryd.prog 40 #[.int .u8 250, .int .u8 255] w fun e w' => e = .returned (setV SB) ∧ Below w.heap.size w w')
    (hn1 : ∀ w, TabOk w → Calls Tryd.prog 46 #[setV SB, .int .i64 252] w fun e w' => e = .returned (.tuple #[.int .u8 252, .bool true]) ∧ Below w.heap.size w w')
    (hn2 : ∀ w, TabOk w → Calls Tryd.prog 46 #[setV SB, .int .i64 256] w fun e w' => e = .returned (.tuple #[.int .u8 0, .bool false]) ∧ Below w.heap.size w w')
    (hf1 : ∀ v w, RunsAt w v [(1, 2), (4, 4)] → Calls Tryd.prog 12 #[v] w fun e w' => e = .returned (.tuple #[setV SS, .int .i64 0]) ∧ Below w.heap.size w w')
    (hf2 : ∀ v w, RunsAt w v [(1, 2), (3, 4)] → Calls Tryd.prog 12 #[v] w fun e w' => e = .returned (.tuple #[setV 0#256, .int .i64 111]) ∧ Below w.heap.size w w')
    (hp : ∀ w, Calls Tryd.prog 28 #[.string ⟨#[112, 117, 110, 99, 116]⟩] w fun e w' => e = .returned (.tuple #[setV SP, .int .i64 0]) ∧ Below w.heap.size w w')
    (hwd : ∀ w, Calls Tryd.prog 28 #[.string ⟨#[119, 111, 114, 100]⟩] w fun e w' => e = .returned (.tuple #[setV 0#256, .int .i64 110]) ∧ Below w.heap.size w w')
    (hr : ∀ w, TabOk w → Calls Tryd.prog 11 #[setV SA] w fun e w' => ∃ v, e = .returned v ∧ RunsAt w' v [(64, 65)] ∧ Below w.heap.size w w')
    (hc : ∀ w, Calls Tryd.prog 15 #[setV SA] w fun e w' => e = .returned (.int .i64 2) ∧ Below w.heap.size w w')
    (hy : ∀ w, TabOk w → Calls Tryd.prog 14 #[setV SS] w fun e w' => ∃ v, e = .returned v ∧ BytesAt w' v [1, 2, 4] ∧ Below w.heap.size w w')
    (hcp : ∀ w, Calls Tryd.prog 15 #[setV SP] w fun e w' => e = .returned (.int .i64 32) ∧ Below w.heap.size w w')
    (h1 : ∀ v w, BytesAt w v [1] → Calls Tryd.prog 13 #[v] w fun e w' => e = .returned (setV S1) ∧ Below w.heap.size w w')
    (h2 : ∀ v w, BytesAt w v [2] → Calls Tryd.prog 13 #[v] w fun e w' => e = .returned (setV S2) ∧ Below w.heap.size w w')
    (hcm : ∀ w, TabOk w → Calls Tryd.prog 19 #[setV S1, setV S2] w fun e w' => e = .returned (.int .i64 (-1)) ∧ Below w.heap.size w w')
    (hf0 : ∀ v w, BytesAt w v [97, 0] → Calls Tryd.prog 13 #[v] w fun e w' => e = .returned (setV F0) ∧ Below w.heap.size w w')
    (hfo : ∀ w, TabOk w → Calls Tryd.prog 16 #[setV F0] w fun e w' => e = .returned (setV F1) ∧ Below w.heap.size w w')
    (hff : ∀ v w, BytesAt w v [65, 97, 0] → Calls Tryd.prog 13 #[v] w fun e w' => e = .returned (setV F1) ∧ Below w.heap.size w w') :
    Calls Tryd.prog 10 #[] w fun e w' => e = .returned (.bool true) ∧ Below w.heap.size w w' := by
  have HA := Lib.hid hA
  have HB := Lib.hid hB
  have HN1 := Lib.hid hn1
  have HN2 := Lib.hid hn2
  have HF1 := Lib.hid hf1
  have HF2 := Lib.hid hf2
  have HP := Lib.hid hp
  have HW := Lib.hid hwd
  have HR := Lib.hid hr
  have HC := Lib.hid hc
  have HY := Lib.hid hy
  have HCP := Lib.hid hcp
  have H1 := Lib.hid h1
  have H2 := Lib.hid h2
  have HCM := Lib.hid hcm
  have HF0 := Lib.hid hf0
  have HFO := Lib.hid hfo
  have HFF := Lib.hid hff
  clear hr hc hy hcp h1 h2 hcm hf0 hfo hff
  clear hA hB hn1 hn2 hf1 hf2 hp hwd
  go_enter Tryd.func10, Tryd.ntmps10
  go_wp2_with fail
  refine (HA.out _ _ (bytes_new _ [65, 64, 65] _ rfl (by simp))).mono ?_
  rintro e w1 ⟨rfl, b1⟩
  have y1 : Ext G0 w w1 := ((Ext.refl _ _).alloc _).trans (Ext.of_below b1 G0)
  clear b1
  go_wp2_with fail
  refine (HB.out _).mono ?_
  rintro e w2 ⟨rfl, b2⟩
  have y2 := y1.trans (Ext.of_below b2 G0)
  clear b2 y1
  go_wp2_with fail
  generalize hw3 : World.alloc (World.alloc w2 _) _ = w3
  have y3 : Ext G0 w w3 := by rw [← hw3]; exact (y2.alloc _).alloc _
  have fA : w3.heap[w2.heap.size]? = some (.cells (setC SA) 24 (0, 0)) := by rw [← hw3]; exact heap_two' _ _ _
  have fB : w3.heap[w2.heap.size + 1]? = some (.cells (setC SB) 24 (0, 0)) := by rw [← hw3]; exact heap_two _ _ _
  generalize w2.heap.size = n2 at *
  clear hw3 y2
  refine (HN1.out _ (htab.ext y3)).mono ?_
  rintro e w4 ⟨rfl, b4⟩
  have y4 := y3.trans (Ext.of_below b4 G0)
  replace fA := ext_heap (Ext.of_below b4 G0) fA (fun x => x)
  replace fB := ext_heap (Ext.of_below b4 G0) fB (fun x => x)
  clear b4 y3
  obtain ⟨q0, q1, q2, q3⟩ := cells4 fB
  go_wp2_with fail
  clear q0 q1 q2 q3
  refine (HN2.out _ (htab.ext y4)).mono ?_
  rintro e w5 ⟨rfl, b5⟩
  have y5 := y4.trans (Ext.of_below b5 G0)
  replace fA := ext_heap (Ext.of_below b5 G0) fA (fun x => x)
  clear b5 y4 fB
  go_wp2_with fail
  refine (HF1.out _ _ (runs_new _ [(1, 2), (4, 4)] _ rfl (by simp))).mono ?_
  rintro e w6 ⟨rfl, b6⟩
  have x6 : Ext G0 w5 w6 := ((Ext.refl _ _).alloc _).trans (Ext.of_below b6 G0)
  have y6 := y5.trans x6
  replace fA := ext_heap x6 fA (fun x => x)
  clear b6 y5 x6
  go_wp2_with fail
  generalize hw7 : World.alloc w6 (.cells #[wordV (word SS 0), wordV (word SS 1), wordV (word SS 2), wordV (word SS 3)] _) = w7
  have hs7 : w7.heap.size = w6.heap.size + 1 := by rw [← hw7]; simp
  have fS : w7.heap[w6.heap.size]? = some (.cells (setC SS) 24 (0, 0)) := by rw [← hw7]; exact heap_new _ _
  replace fA : w7.heap[n2]? = some (.cells (setC SA) 24 (0, 0)) := by rw [← hw7]; exact heap_past fA _
  have y7 : Ext G0 w w7 := by rw [← hw7]; exact y6.alloc _
  generalize w6.heap.size = n6 at *
  clear hw7 y6
  rw [← hs7]
  refine (HF2.out _ _ (runs_new w7 [(1, 2), (3, 4)] _ rfl (by simp))).mono ?_
  rintro e w8 ⟨rfl, b8⟩
  have x8 : Ext G0 w7 w8 := ((Ext.refl _ _).alloc _).trans (Ext.of_below b8 G0)
  have y8 := y7.trans x8
  replace fA := ext_heap x8 fA (fun x => x)
  replace fS := ext_heap x8 fS (fun x => x)
  clear b8 y7 x8
  go_wp2_with fail
  refine (HP.out _).mono ?_
  rintro e w9 ⟨rfl, b9⟩
  have x9 : Ext G0 w8 w9 := ((Ext.refl _ _).alloc _).trans (Ext.of_below b9 G0)
  have y9 := y8.trans x9
  replace fA := ext_heap x9 fA (fun x => x)
  replace fS := ext_heap x9 fS (fun x => x)
  clear b9 y8 x9
  go_wp2_with fail
  generalize hw10 : World.alloc w9 (.cells #[wordV (word SP 0), wordV (word SP 1), wordV (word SP 2), wordV (word SP 3)] _) = w10
  have hs10 : w10.heap.size = w9.heap.size + 1 := by rw [← hw10]; simp
  have fP : w10.heap[w9.heap.size]? = some (.cells (setC SP) 24 (0, 0)) := by rw [← hw10]; exact heap_new _ _
  replace fA : w10.heap[n2]? = some (.cells (setC SA) 24 (0, 0)) := by rw [← hw10]; exact heap_past fA _
  replace fS : w10.heap[n6]? = some (.cells (setC SS) 24 (0, 0)) := by rw [← hw10]; exact heap_past fS _
  have y10 : Ext G0 w w10 := by rw [← hw10]; exact y9.alloc _
  generalize w9.heap.size = n9 at *
  clear hw10 y9
  refine (HW.out _).mono ?_
  rintro e w11 ⟨rfl, b11⟩
  have x11 : Ext G0 w10 w11 := (Ext.refl _ _).trans (Ext.of_below b11 G0)
  have y11 := y10.trans x11
  replace fA := ext_heap x11 fA (fun x => x)
  replace fS := ext_heap x11 fS (fun x => x)
  replace fP := ext_heap x11 fP (fun x => x)
  clear b11 y10 x11
  obtain ⟨q0, q1, q2, q3⟩ := cells4 fA
  have hq := lt_of_block fA
  go_wp2_with fail
  clear q0 q1 q2 q3 hq
  refine (HR.out _ (htab.ext (y11.alloc _))).mono ?_
  rintro e w12 ⟨v, rfl, hv, b12⟩
  have x12 : Ext G0 w11 w12 := ((Ext.refl _ _).alloc _).trans (Ext.of_below b12 G0)
  have y12 := y11.trans x12
  replace fA := ext_heap x12 fA (fun x => x)
  replace fS := ext_heap x12 fS (fun x => x)
  replace fP := ext_heap x12 fP (fun x => x)
  clear b12 y11 x12
  go_wp2_with fail
  refine (equalR_same [(64, 65)] v _ _ (SlAt.ext hv ((Ext.refl _ _).alloc _)) (runs_new _ [(64, 65)] _ rfl (by simp))).mono ?_
  rintro e w13 ⟨rfl, b13⟩
  have x13 : Ext G0 w12 w13 := ((Ext.refl _ _).alloc _).trans (Ext.of_below b13 G0)
  have y13 := y12.trans x13
  replace fA := ext_heap x13 fA (fun x => x)
  replace fS := ext_heap x13 fS (fun x => x)
  replace fP := ext_heap x13 fP (fun x => x)
  clear b13 y12 x13
  clear hv
  obtain ⟨q0, q1, q2, q3⟩ := cells4 fA
  have hq := lt_of_block fA
  go_wp2_with fail
  clear q0 q1 q2 q3 hq
  refine (HC.out _).mono ?_
  rintro e w14 ⟨rfl, b14⟩
  have x14 : Ext G0 w13 w14 := (Ext.refl _ _).trans (Ext.of_below b14 G0)
  have y14 := y13.trans x14
  replace fS := ext_heap x14 fS (fun x => x)
  replace fP := ext_heap x14 fP (fun x => x)
  clear b14 y13 x14
  obtain ⟨q0, q1, q2, q3⟩ := cells4 fS
  have hq := lt_of_block fS
  go_wp2_with fail
  clear q0 q1 q2 q3 hq
  refine (HY.out _ (htab.ext y14)).mono ?_
  rintro e w15 ⟨v2, rfl, hv, b15⟩
  have x15 : Ext G0 w14 w15 := (Ext.refl _ _).trans (Ext.of_below b15 G0)
  have y15 := y14.trans x15
  replace fP := ext_heap x15 fP (fun x => x)
  clear b15 y14 x15
  go_wp2_with fail
  refine (equalB_same [1, 2, 4] v2 _ _ (SlAt.ext hv ((Ext.refl _ _).alloc _)) (bytes_new _ [1, 2, 4] _ rfl (by simp))).mono ?_
  rintro e w16 ⟨rfl, b16⟩
  have x16 : Ext G0 w15 w16 := ((Ext.refl _ _).alloc _).trans (Ext.of_below b16 G0)
  have y16 := y15.trans x16
  replace fP := ext_heap x16 fP (fun x => x)
  clear b16 y15 x16
  clear hv
  obtain ⟨q0, q1, q2, q3⟩ := cells4 fP
  have hq := lt_of_block fP
  go_wp2_with fail
  clear q0 q1 q2 q3 hq
  refine (HCP.out _).mono ?_
  rintro e w17 ⟨rfl, b17⟩
  have x17 : Ext G0 w16 w17 := (Ext.refl _ _).trans (Ext.of_below b17 G0)
  have y17 := y16.trans x17
  clear b17 y16 x17
  go_wp2_with fail
  refine (H1.out _ _ (bytes_new _ [1] _ rfl (by simp))).mono ?_
  rintro e w18 ⟨rfl, b18⟩
  have x18 : Ext G0 w17 w18 := ((Ext.refl _ _).alloc _).trans (Ext.of_below b18 G0)
  have y18 := y17.trans x18
  clear b18 y17 x18
  go_wp2_with fail
  refine (H2.out _ _ (bytes_new _ [2] _ rfl (by simp))).mono ?_
  rintro e w19 ⟨rfl, b19⟩
  have x19 : Ext G0 w18 w19 := ((Ext.refl _ _).alloc _).trans (Ext.of_below b19 G0)
  have y19 := y18.trans x19
  clear b19 y18 x19
  go_wp2_with fail
  refine (HCM.out _ (htab.ext y19)).mono ?_
  rintro e w20 ⟨rfl, b20⟩
  have x20 : Ext G0 w19 w20 := (Ext.refl _ _).trans (Ext.of_below b20 G0)
  have y20 := y19.trans x20
  clear b20 y19 x20
  go_wp2_with fail
  refine (HF0.out _ _ (bytes_new _ [97, 0] _ rfl (by simp))).mono ?_
  rintro e w21 ⟨rfl, b21⟩
  have x21 : Ext G0 w20 w21 := ((Ext.refl _ _).alloc _).trans (Ext.of_below b21 G0)
  have y21 := y20.trans x21
  clear b21 y20 x21
  go_wp2_with fail
  refine (HFO.out _ (htab.ext y21)).mono ?_
  rintro e w22 ⟨rfl, b22⟩
  have x22 : Ext G0 w21 w22 := (Ext.refl _ _).trans (Ext.of_below b22 G0)
  have y22 := y21.trans x22
  clear b22 y21 x22
  go_wp2_with fail
  refine (HFF.out _ _ (bytes_new _ [65, 97, 0] _ rfl (by simp))).mono ?_
  rintro e w23 ⟨rfl, b23⟩
  have x23 : Ext G0 w22 w23 := ((Ext.refl _ _).alloc _).trans (Ext.of_below b23 G0)
  have y23 := y22.trans x23
  clear b23 y22 x23
  have he := equalIn_set F1 F1
  rw [decide_eq_true rfl] at he
  go_wp2
  go_ret
  exact ⟨rfl, y23.below⟩

theorem wakes_any (w : World) (htab : TabOk w) :
    Calls Tryd.prog 10 #[] w fun e w' => e = .returned (.bool true) ∧ Below w.heap.size w w' := by
  obtain ⟨SS, hSS⟩ : ∃ s, fromS [(1, 2), (4, 4)] = some s := Option.isSome_iff_exists.1 wk_from
  have hby : bytesS SS = [1, 2, 4] := by have := wk_bytes; rw [hSS] at this; exact Option.some.inj this
  obtain ⟨SP, hSP, hct⟩ : ∃ s, tabN ⟨#[112, 117, 110, 99, 116]⟩ = some s ∧ countS s = 32 := by
    have := wk_punct
    cases h : tabN ⟨#[112, 117, 110, 99, 116]⟩ with
    | none => rw [h] at this; cases this
    | some s => rw [h] at this; exact ⟨s, rfl, Option.some.inj this⟩
  refine wakes_walk (listS [65, 64, 65]) (spanS 250 255) SS SP (listS [1]) (listS [2]) (listS [97, 0]) (listS [65, 97, 0]) w htab ?_ ?_ ?_ ?_ ?_ ?_ ?_ ?_ ?_ ?_ ?_ ?_ ?_ ?_ ?_ ?_ ?_ ?_
  · exact fun v w hv => of_any _ v w hv (by decide)
  · exact fun w => span_any 250 255 w (by decide) (by decide)
  · intro w ht
    have := next_any (spanS 250 255) 252 w ht (by decide) (by decide)
    rw [show (max (252 : Int) 0).toNat = 252 from rfl, wk_next] at this
    exact this
  · intro w ht
    have := next_any (spanS 250 255) 256 w ht (by decide) (by decide)
    rw [show (max (256 : Int) 0).toNat = 256 from rfl, wk_next2] at this
    exact this
  · intro v w hv
    have := fromRuns_any _ v w hv (by decide)
    rw [hSS] at this
    exact this
  · intro v w hv
    have := fromRuns_any _ v w hv (by decide)
    rw [wk_from2] at this
    exact this
  · intro w
    have := Named_any ⟨#[112, 117, 110, 99, 116]⟩ w
    unfold namedV at this
    rw [hSP] at this
    exact this
  · intro w
    have := Named_any ⟨#[119, 111, 114, 100]⟩ w
    unfold namedV at this
    rw [wk_word] at this
    exact this
  · intro w ht
    refine (runs_any (listS [65, 64, 65]) w ht).mono ?_
    rintro e w' ⟨v, rfl, ho, hb⟩
    rw [wk_runs] at ho
    exact ⟨v, rfl, SlAt.of_owns (fun _ _ => rfl) ho (by simp), hb⟩
  · intro w
    have := count_any (listS [65, 64, 65]) w
    rw [wk_count] at this
    exact this
  · intro w ht
    refine (bytes_any SS w ht).mono ?_
    rintro e w' ⟨v, rfl, ho, hb⟩
    rw [hby] at ho
    exact ⟨v, rfl, SlAt.of_owns (l := [1, 2, 4]) (fun _ _ => rfl) ho (by simp), hb⟩
  · intro w
    have := count_any SP w
    rw [hct] at this
    exact this
  · exact fun v w hv => of_any _ v w hv (by decide)
  · exact fun v w hv => of_any _ v w hv (by decide)
  · intro w ht
    have := compare_any (listS [1]) (listS [2]) w ht
    rw [wk_cmp] at this
    exact this
  · exact fun v w hv => of_any _ v w hv (by decide)
  · intro w ht
    have := fold_any (listS [97, 0]) w ht
    rw [wk_fold] at this
    exact this
  · exact fun v w hv => of_any _ v w hv (by decide)

end Go.Proofs.YtejialnbelleeaaDoor
