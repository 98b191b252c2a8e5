/-
  The reference's reader: While.
-/
import Derived.Test.YtejialnbelleeaaRdrA
import Derived.Test.YtejialnbelleeaaRdrH
import Derived.Test.YtejialnbelleeaaTxtQ0
namespace Go.Proofs.Ytejialnbelleeaa
open Go Go.RowKit

theorem place_of {w : World} {g k : Nat} {x y : Value} {t : TypeId} {f : Nat × Nat} (h : w.heap[g]? = some (.cells #[x, .int .i64 (k : Int), y] t f)) : placeOf g w = k := by
  unfold placeOf; rw [blk_cell h 1]; simp
theorem part_next (s : ByteArray) (p q : Nat) (h : p ≤ q) : s.extract p q ++ s.extract q (q + 1) = s.extract p (q + 1) := (ByteArray.extract_eq_extract_append_extract q h (by omega)).symm

def WhileRel (s : ByteArray) (a : Bs) (p : Nat) (er : Int) (n k : Nat) (w wr : World) : Prop := p ≤ k ∧ k ≤ s.size ∧ (er = 0 ∨ k = p) ∧ (er = 0 → whileP s a k = whileP s a p) ∧ wr.heap[n]? = some (.cells (rdC s k er) 52 (0, 0)) ∧ wr.heap[n + 1]? = some (.cells (setC a) 25 (0, 0)) ∧
  wr.heap[n + 1 + 1]? = some (.cells #[.string ByteArray.empty, .int .i64 0, .int .i64 0] 52 (0, 0)) ∧ Ext G0 w wr

set_option maxRecDepth 100000 in
set_option maxHeartbeats 1500000 in
theorem rWhile_any (s : ByteArray) (p : Nat) (er : Int) (a : Bs) (w : World) (hp : p ≤ s.size) (hs : s.size ≤ 140737488351232) :
    Calls Try.prog 48 #[rdV s p er, setV a] w fun e w' => e = .returned (.tuple #[rdV s (stepR p er (whileR s a p)).pos (stepR p er (whileR s a p)).err, .string ((stepR p er (whileR s a p)).val ⟨#[]⟩)]) ∧ Ext G0 w w' := by
  have HL := Lib.hid (fun q e h w => rLeft_any s q e w h hs)
  obtain ⟨st, hst⟩ : ∃ st, st = stepR p er (whileR s a p) := ⟨_, rfl⟩
  rw [← hst]
  replace hst := Lib.hid hst
  go_enter Try.func48, Try.ntmps48
  go_wp2
  generalize hwz : World.alloc (World.alloc (World.alloc w _) _) _ = wz
  have fR : wz.heap[w.heap.size]? = some (.cells (rdC s p er) 52 (0, 0)) := by rw [← hwz]; exact heap_past (heap_two' w _ _) _
  have fA : wz.heap[w.heap.size + 1]? = some (.cells (setC a) 25 (0, 0)) := by rw [← hwz]; exact heap_past (heap_two w _ _) _
  have fO : wz.heap[w.heap.size + 1 + 1]? = some (.cells #[.string ByteArray.empty, .int .i64 0, .int .i64 0] 52 (0, 0)) := by rw [← hwz]; exact heap_at _ _ _ (by simp)
  have y0 : Ext G0 w wz := by rw [← hwz]; exact (((Ext.refl _ _).alloc _).alloc _).alloc _
  clear hwz
  go_loopg [6] (s.size - p) (fun n v wr => ∃ k : Nat, n = s.size - k ∧ v = .string (s.extract p k) ∧ WhileRel s a p er w.heap.size k w wr)
  case atStart => exact ⟨p, rfl, by rw [show s.extract p p = ByteArray.empty from by simp]; rfl, Nat.le_refl _, hp, .inr rfl, fun _ => rfl, fR, fA, fO, y0⟩
  case round =>
    obtain ⟨k, rfl, rfl, hk1, hk2, hke, hwk, gR, gA, gO, hx⟩ := hrel
    clear fR fA fO y0
    by_cases hgo : er = 0 ∧ k < s.size
    · obtain ⟨rfl, hlt⟩ := hgo
      have i1 : (k : Int) < (s.size : Int) := by omega
      have i0 : (0 : Int) ≤ (k : Int) := by omega
      have HLk := Lib.hid (fun w => HL.out k 0 hk2 w)
      rw [show leftN s k 0 = (s.size : Int) - (k : Int) from if_pos rfl] at HLk
      have t1 : decide (0 < (s.size : Int) - (k : Int)) = true := by simp; omega
      have hb := byteA_lt s k
      have HH := Lib.hid (fun w => rhas_any a (byteA s k) w hb)
      have hby := byteA_eq hlt
      cases hbit : a.getLsbD (byteA s k) with
      | true =>
        rw [hbit] at HH
        have hstep := (whileP_step hlt hbit).symm.trans (hwk rfl)
        have hpn := Lib.hid (part_next s p k hk1)
        clear hwk hke hbit
        generalize byteA s k = by_ at *
        go_wp2_with fail
        apply region_phi (leaves := (Leaf.val _) :: (Leaf.val _) :: (Leaf.val _) :: (Leaf.val _) :: (Leaf.val _) :: (Leaf.val _) :: (Leaf.val _) :: (Leaf.val _) :: (Leaf.val _) :: (Leaf.val _) :: (Leaf.val _) :: (Leaf.val _) :: (Leaf.val _) :: ([] : List Leaf)) (k := 13) (b := #[0, 1, 3, 7, 15, 15, 47, 15, 143, 495, 1007, 2047, 4095]) (ms := []) (E := Ext G0) mixed (by kernel_rfl) rfl (by kernel_rfl) rfl
        apply owed_walk rfl
        · intro w1 hw hf
          have gR_0 := blk_cell (ext_heapD hw gR (fun x => x)) 0
          have gR_1 := blk_cell (ext_heapD hw gR (fun x => x)) 1
          have gR_2 := blk_cell (ext_heapD hw gR (fun x => x)) 2
          go_wp2
          exact ⟨rfl, rfl, Ext.refl _ _⟩
        · simp
        · go_simp
          try rfl
        apply owed_walk rfl
        · intro w1 hw hf
          go_wp2_with (go_at_call 26; (with_reducible refine (HLk.out _).mono ?_); rintro e w2 ⟨rfl, hx2⟩)
          exact ⟨rfl, rfl, hx2⟩
        · simp
        · go_simp
          try rfl
        apply owed_walk rfl
        · intro w1 hw hf
          go_wp2
          exact ⟨rfl, rfl, Ext.refl _ _⟩
        · simp
        · go_simp
          try rfl
        apply owed_walk rfl
        · intro w1 hw hf
          go_wp2
          exact ⟨rfl, rfl, Ext.refl _ _⟩
        · simp
        · go_simp
          try rfl
        apply owed_walk rfl
        · intro w1 hw hf
          obtain ⟨gA0, gA1, gA2, gA3⟩ := cells4 (ext_heapD hw gA (fun x => x))
          go_wp2
          exact ⟨rfl, rfl, Ext.refl _ _⟩
        · simp
        · go_simp
          try rfl
        apply owed_walk rfl
        · intro w1 hw hf
          go_wp2
          exact ⟨rfl, rfl, Ext.refl _ _⟩
        · simp
        · go_simp
          try rfl
        apply owed_walk rfl
        · intro w1 hw hf
          have gR_0 := blk_cell (ext_heapD hw gR (fun x => x)) 0
          have gR_1 := blk_cell (ext_heapD hw gR (fun x => x)) 1
          have gR_2 := blk_cell (ext_heapD hw gR (fun x => x)) 2
          go_wp2
          exact ⟨rfl, rfl, Ext.refl _ _⟩
        · simp
        · go_simp
          try rfl
        apply owed_walk rfl
        · intro w1 hw hf
          go_wp2
          exact ⟨rfl, rfl, Ext.refl _ _⟩
        · simp
        · go_simp
          try rfl
        apply owed_walk rfl
        · intro w1 hw hf
          have gR_0 := blk_cell (ext_heapD hw gR (fun x => x)) 0
          have gR_1 := blk_cell (ext_heapD hw gR (fun x => x)) 1
          have gR_2 := blk_cell (ext_heapD hw gR (fun x => x)) 2
          go_wp2
          exact ⟨rfl, rfl, Ext.refl _ _⟩
        · simp
        · go_simp
          try rfl
        apply owed_walk rfl
        · intro w1 hw hf
          go_wp2
          exact ⟨rfl, rfl, Ext.refl _ _⟩
        · simp
        · go_simp
          try rfl
        apply owed_walk rfl
        · intro w1 hw hf
          go_wp2
          exact ⟨rfl, rfl, Ext.refl _ _⟩
        · simp
        · go_simp
          try rfl
        apply owed_walk rfl
        · intro w1 hw hf
          go_wp2_with (go_at_call 61; (with_reducible refine (HH.out _).mono ?_); rintro e w2 ⟨rfl, hx2⟩)
          exact ⟨rfl, rfl, Ext.of_below hx2 _⟩
        · simp
        · go_simp
          try rfl
        apply owed_walk rfl
        · intro w1 hw hf
          go_wp2
          exact ⟨rfl, rfl, Ext.refl _ _⟩
        · simp
        · go_simp
          try rfl
        apply owed_end
        intro w5 hw _
        refine Tail.nil rfl ?_
        replace gR := ext_heapD hw gR (fun x => x)
        replace gA := ext_heapD hw gA (fun x => x)
        replace gO := ext_heapD hw gO (fun x => x)
        replace hx := hx.trans hw.ofDrew
        clear hw
        have c0 := blk_cell gR 0
        have c1 := blk_cell gR 1
        have z := blk_free gR
        have hl := lt_of_block gR
        have h9 := IntWalk.i64_in ((k : Int) + 1) (by omega)
        have hsz1 : (s.extract p k).size ≤ s.size := by rw [ByteArray.size_extract]; omega
        have hsz2 : (s.extract k (k + 1)).size ≤ s.size := by rw [ByteArray.size_extract]; omega
        go_wp2
        go_roundg (s.size - (k + 1))
        case rel => exact ⟨k + 1, rfl, by rw [← hpn.out], by omega, by omega, .inl rfl, fun _ => hstep, blk_set gR 1 _, (Below.heap_setCell _ _ _ _ (by simp)).trans gA, (Below.heap_setCell _ _ _ _ (by simp; omega)).trans gO, hx.set (by simp) _⟩
        case measure => omega
      | false =>
        rw [hbit] at HH
        have hfin : st = .ok (s.extract p k) k := by
          rw [hst.out, show stepR p 0 (whileR s a p) = whileR s a p from if_pos rfl]
          unfold whileR
          rw [← hwk rfl, whileP_stop (fun h => by rw [hbit] at h; exact absurd h.2 (by decide))]
        replace hfin := Lib.hid hfin
        clear hwk hke hbit
        generalize byteA s k = by_ at *
        go_wp2_with fail
        apply region_phi (leaves := (Leaf.val _) :: (Leaf.val _) :: (Leaf.val _) :: (Leaf.val _) :: (Leaf.val _) :: (Leaf.val _) :: (Leaf.val _) :: (Leaf.val _) :: (Leaf.val _) :: (Leaf.val _) :: (Leaf.val _) :: (Leaf.val _) :: (Leaf.val _) :: ([] : List Leaf)) (k := 13) (b := #[0, 1, 3, 7, 15, 15, 47, 15, 143, 495, 1007, 2047, 4095]) (ms := []) (E := Ext G0) mixed (by kernel_rfl) rfl (by kernel_rfl) rfl
        apply owed_walk rfl
        · intro w1 hw hf
          have gR_0 := blk_cell (ext_heapD hw gR (fun x => x)) 0
          have gR_1 := blk_cell (ext_heapD hw gR (fun x => x)) 1
          have gR_2 := blk_cell (ext_heapD hw gR (fun x => x)) 2
          go_wp2
          exact ⟨rfl, rfl, Ext.refl _ _⟩
        · simp
        · go_simp
          try rfl
        apply owed_walk rfl
        · intro w1 hw hf
          go_wp2_with (go_at_call 26; (with_reducible refine (HLk.out _).mono ?_); rintro e w2 ⟨rfl, hx2⟩)
          exact ⟨rfl, rfl, hx2⟩
        · simp
        · go_simp
          try rfl
        apply owed_walk rfl
        · intro w1 hw hf
          go_wp2
          exact ⟨rfl, rfl, Ext.refl _ _⟩
        · simp
        · go_simp
          try rfl
        apply owed_walk rfl
        · intro w1 hw hf
          go_wp2
          exact ⟨rfl, rfl, Ext.refl _ _⟩
        · simp
        · go_simp
          try rfl
        apply owed_walk rfl
        · intro w1 hw hf
          obtain ⟨gA0, gA1, gA2, gA3⟩ := cells4 (ext_heapD hw gA (fun x => x))
          go_wp2
          exact ⟨rfl, rfl, Ext.refl _ _⟩
        · simp
        · go_simp
          try rfl
        apply owed_walk rfl
        · intro w1 hw hf
          go_wp2
          exact ⟨rfl, rfl, Ext.refl _ _⟩
        · simp
        · go_simp
          try rfl
        apply owed_walk rfl
        · intro w1 hw hf
          have gR_0 := blk_cell (ext_heapD hw gR (fun x => x)) 0
          have gR_1 := blk_cell (ext_heapD hw gR (fun x => x)) 1
          have gR_2 := blk_cell (ext_heapD hw gR (fun x => x)) 2
          go_wp2
          exact ⟨rfl, rfl, Ext.refl _ _⟩
        · simp
        · go_simp
          try rfl
        apply owed_walk rfl
        · intro w1 hw hf
          go_wp2
          exact ⟨rfl, rfl, Ext.refl _ _⟩
        · simp
        · go_simp
          try rfl
        apply owed_walk rfl
        · intro w1 hw hf
          have gR_0 := blk_cell (ext_heapD hw gR (fun x => x)) 0
          have gR_1 := blk_cell (ext_heapD hw gR (fun x => x)) 1
          have gR_2 := blk_cell (ext_heapD hw gR (fun x => x)) 2
          go_wp2
          exact ⟨rfl, rfl, Ext.refl _ _⟩
        · simp
        · go_simp
          try rfl
        apply owed_walk rfl
        · intro w1 hw hf
          go_wp2
          exact ⟨rfl, rfl, Ext.refl _ _⟩
        · simp
        · go_simp
          try rfl
        apply owed_walk rfl
        · intro w1 hw hf
          go_wp2
          exact ⟨rfl, rfl, Ext.refl _ _⟩
        · simp
        · go_simp
          try rfl
        apply owed_walk rfl
        · intro w1 hw hf
          go_wp2_with (go_at_call 61; (with_reducible refine (HH.out _).mono ?_); rintro e w2 ⟨rfl, hx2⟩)
          exact ⟨rfl, rfl, Ext.of_below hx2 _⟩
        · simp
        · go_simp
          try rfl
        apply owed_walk rfl
        · intro w1 hw hf
          go_wp2
          exact ⟨rfl, rfl, Ext.refl _ _⟩
        · simp
        · go_simp
          try rfl
        apply owed_end
        intro w5 hw _
        refine Tail.nil rfl ?_
        replace gR := ext_heapD hw gR (fun x => x)
        replace gA := ext_heapD hw gA (fun x => x)
        replace gO := ext_heapD hw gO (fun x => x)
        replace hx := hx.trans hw.ofDrew
        clear hw
        have c0 := blk_cell gR 0
        have c1 := blk_cell gR 1
        have c2 := blk_cell gR 2
        have r0 := blk_cell gO 0
        have r1 := blk_cell gO 1
        have r2 := blk_cell gO 2
        have z := blk_free gO
        have hl := lt_of_block gO
        go_wp2
        refine bodyPost_ret (v := .tuple #[rdV s st.pos st.err, .string (st.val ⟨#[]⟩)]) (by rw [hfin.out]; simp [results, Try.results48, go_sem, r0, r1, r2, Res.pos, Res.err, Res.val]) rfl ⟨rfl, ?_⟩
        exact ((hx.set (by simp; omega) _).set (by simp; omega) _).set (by simp; omega) _
    · have HLk := Lib.hid (fun w => HL.out k er hk2 w)
      have h0 : leftN s k er = 0 := by
        unfold leftN
        split
        · rename_i h; omega
        · rfl
      rw [h0] at HLk
      have hfin : (er = 0 ∧ st = .ok (s.extract p k) k) ∨ (er ≠ 0 ∧ k = p ∧ st = .fail p er) := by
        by_cases he : er = 0
        · subst he
          refine .inl ⟨rfl, ?_⟩
          rw [hst.out, show stepR p 0 (whileR s a p) = whileR s a p from if_pos rfl]
          unfold whileR
          rw [← hwk rfl, whileP_stop (fun h => hgo ⟨rfl, h.1⟩)]
        · exact .inr ⟨he, by omega, by rw [hst.out]; exact if_neg he⟩
      replace hfin := Lib.hid hfin
      clear hwk hke hgo h0
      go_wp2_with fail
      apply region_phi (leaves := (Leaf.val _) :: (Leaf.val _) :: (Leaf.val _) :: (Leaf.val _) :: (Leaf.val _) :: (Leaf.val _) :: (Leaf.val _) :: (Leaf.val _) :: (Leaf.val _) :: (Leaf.val _) :: (Leaf.val _) :: (Leaf.val _) :: (Leaf.val _) :: ([] : List Leaf)) (k := 13) (b := #[0, 1, 3, 7, 15, 15, 47, 15, 143, 495, 1007, 2047, 4095]) (ms := []) (E := Ext G0) mixed (by kernel_rfl) rfl (by kernel_rfl) rfl
      apply owed_walk rfl
      · intro w1 hw hf
        have gR_0 := blk_cell (ext_heapD hw gR (fun x => x)) 0
        have gR_1 := blk_cell (ext_heapD hw gR (fun x => x)) 1
        have gR_2 := blk_cell (ext_heapD hw gR (fun x => x)) 2
        go_wp2
        exact ⟨rfl, rfl, Ext.refl _ _⟩
      · simp
      · go_simp
        try rfl
      apply owed_walk rfl
      · intro w1 hw hf
        go_wp2_with (go_at_call 26; (with_reducible refine (HLk.out _).mono ?_); rintro e w2 ⟨rfl, hx2⟩)
        exact ⟨rfl, rfl, hx2⟩
      · simp
      · go_simp
        try rfl
      apply owed_walk rfl
      · intro w1 hw hf
        go_wp2
        exact ⟨rfl, rfl, Ext.refl _ _⟩
      · simp
      · go_simp
        try rfl
      apply owed_walk rfl
      · intro w1 hw hf
        go_wp2
        exact ⟨rfl, rfl, Ext.refl _ _⟩
      · simp
      · go_simp
        try rfl
      apply owed_walk rfl
      · intro w1 hw hf
        obtain ⟨gA0, gA1, gA2, gA3⟩ := cells4 (ext_heapD hw gA (fun x => x))
        go_wp2
        exact ⟨rfl, rfl, Ext.refl _ _⟩
      · simp
      · go_simp
        try rfl
      apply owed_walk rfl
      · intro w1 hw hf
        go_wp2
        exact ⟨rfl, rfl, Ext.refl _ _⟩
      · simp
      · go_simp
        try rfl
      apply owed_walk rfl
      · intro w1 hw hf
        have gR_0 := blk_cell (ext_heapD hw gR (fun x => x)) 0
        have gR_1 := blk_cell (ext_heapD hw gR (fun x => x)) 1
        have gR_2 := blk_cell (ext_heapD hw gR (fun x => x)) 2
        go_wp2
        exact ⟨rfl, rfl, Ext.refl _ _⟩
      · simp
      · go_simp
        try rfl
      apply owed_walk rfl
      · intro w1 hw hf
        go_wp2
        exact ⟨rfl, rfl, Ext.refl _ _⟩
      · simp
      · go_simp
        try rfl
      apply owed_walk rfl
      · intro w1 hw hf
        have gR_0 := blk_cell (ext_heapD hw gR (fun x => x)) 0
        have gR_1 := blk_cell (ext_heapD hw gR (fun x => x)) 1
        have gR_2 := blk_cell (ext_heapD hw gR (fun x => x)) 2
        go_wp2
        exact ⟨rfl, rfl, Ext.refl _ _⟩
      · simp
      · go_simp
        try rfl
      apply owed_walk rfl
      · intro w1 hw hf
        go_wp2
        exact ⟨rfl, rfl, Ext.refl _ _⟩
      · simp
      · go_simp
        try rfl
      apply owed_walk rfl
      · intro w1 hw hf
        go_wp2
        exact ⟨rfl, rfl, Ext.refl _ _⟩
      · simp
      · go_simp
        try rfl
      apply owed_walk rfl
      · intro w1 hw hf
        go_wp2
        exact ⟨rfl, rfl, Ext.refl _ _⟩
      · simp
      · go_simp
        try rfl
      apply owed_walk rfl
      · intro w1 hw hf
        go_wp2
        exact ⟨rfl, rfl, Ext.refl _ _⟩
      · simp
      · go_simp
        try rfl
      apply owed_end
      intro w5 hw _
      refine Tail.nil rfl ?_
      replace gR := ext_heapD hw gR (fun x => x)
      replace gA := ext_heapD hw gA (fun x => x)
      replace gO := ext_heapD hw gO (fun x => x)
      replace hx := hx.trans hw.ofDrew
      clear hw
      have c0 := blk_cell gR 0
      have c1 := blk_cell gR 1
      have c2 := blk_cell gR 2
      have r0 := blk_cell gO 0
      have r1 := blk_cell gO 1
      have r2 := blk_cell gO 2
      have z := blk_free gO
      have hl := lt_of_block gO
      go_wp2
      refine bodyPost_ret (v := .tuple #[rdV s k er, .string (s.extract p k)]) (by simp [results, Try.results48, go_sem, r0, r1, r2]) rfl ⟨?_, ?_⟩
      · rcases hfin.out with ⟨h1, h2⟩ | ⟨h1, rfl, h2⟩
        · rw [h1, h2]; rfl
        · rw [h2, show s.extract k k = ⟨#[]⟩ from by simp; rfl]; rfl
      · exact ((hx.set (by simp; omega) _).set (by simp; omega) _).set (by simp; omega) _

end Go.Proofs.Ytejialnbelleeaa
