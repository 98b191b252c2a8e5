/-
  The reference's reader: Want.
-/
import Derived.Test.YtejialnbelleeaaRdrE
namespace Go.Proofs.Ytejialnbelleeaa
open Go Go.RowKit

def WantRel (s word : ByteArray) (p n k : Nat) (w wr : World) : Prop := k ≤ word.size ∧ p + k ≤ s.size ∧ wantF s word p (word.size - k) k = wantF s word p word.size 0 ∧ wr.heap[n]? = some (.cells (rdC s p 0) 52 (0, 0)) ∧
  wr.heap[n + 1]? = some (.cells #[.string ByteArray.empty, .int .i64 0, .int .i64 0] 52 (0, 0)) ∧ Ext G0 w wr

set_option maxRecDepth 100000 in
set_option maxHeartbeats 2500000 in
theorem rWant_any (s word : ByteArray) (p : Nat) (er : Int) (w : World) (hp : p ≤ s.size) (hs : s.size ≤ 140737488351232) (hw0 : word.size ≤ 140737488351232) :
    Calls Try.prog 49 #[rdV s p er, .string word] w fun e w' => e = .returned (.tuple #[rdV s (stepR p er (wantR s word p)).pos (stepR p er (wantR s word p)).err, .bool ((stepR p er (wantR s word p)).val false)]) ∧ Ext G0 w w' := by
  by_cases he : er = 0
  · subst he
    rw [show stepR p 0 (wantR s word p) = wantR s word p from if_pos rfl]
    obtain ⟨st, hst⟩ : ∃ st, st = wantR s word p := ⟨_, rfl⟩
    rw [← hst]
    replace hst := Lib.hid hst
    go_enter Try.func49, Try.ntmps49
    go_wp2
    generalize hwz : World.alloc (World.alloc w _) _ = wz
    have fR : wz.heap[w.heap.size]? = some (.cells (rdC s p 0) 52 (0, 0)) := by rw [← hwz]; exact heap_past (heap_new w _) _
    have fO : wz.heap[w.heap.size + 1]? = some (.cells (#[.string ByteArray.empty, .int .i64 0, .int .i64 0]) 52 (0, 0)) := by rw [← hwz]; exact heap_two w _ _
    have y0 : Ext G0 w wz := by rw [← hwz]; exact ((Ext.refl _ _).alloc _).alloc _
    clear hwz
    go_loopg [13] (word.size) (fun n v wr => ∃ k : Nat, n = word.size - k ∧ v = .int .i64 (k : Int) ∧ WantRel s word p w.heap.size k w wr)
    case atStart => exact ⟨0, rfl, rfl, Nat.zero_le _, hp, rfl, fR, fO, y0⟩
    case round =>
      obtain ⟨k, rfl, rfl, hk, hpk, hF, gR, gO, hx⟩ := hrel
      clear fR fO y0
      obtain ⟨q, hq⟩ : ∃ q : Nat, q = p + k := ⟨_, rfl⟩
      have hqi : (p : Int) + (k : Int) = (q : Int) := by omega
      have s1 := IntWalk.i64_in (q : Int) (by omega)
      by_cases hlt : k < word.size
      · have hF1 : wantF s word p (word.size - k) k = if p + k = s.size ∨ byteA s (p + k) ≠ byteA word k then some k else wantF s word p (word.size - (k + 1)) (k + 1) := by
          obtain ⟨d, hd⟩ : ∃ d, word.size - k = d + 1 := ⟨word.size - k - 1, by omega⟩
          rw [hd, show word.size - (k + 1) = d by omega]
          rfl
        rw [hF1, ← hq] at hF
        have HF := Lib.hid hF
        have HQ := Lib.hid hq
        have i2 : (k : Int) < (word.size : Int) := by omega
        have i3 : k < word.size := hlt
        clear hF hF1
        by_cases hgo : q < s.size ∧ byteA s q = byteA word k
        · obtain ⟨hql, hb⟩ := hgo
          have h1 : decide (s.size ≤ q) = false := by simp; omega
          have i1 : (q : Int) < (s.size : Int) := by omega
          have e1 := byteA_eq hql
          have e2 := byteA_eq hlt
          have h2 : ((byteA s q : Int) != (byteA word k : Int)) = false := by simp [hb]
          have HB := Lib.hid hb
          clear hb hq
          go_wp2_with fail
          apply region_phi (leaves := (Leaf.val _) :: (Leaf.val _) :: (Leaf.val _) :: (Leaf.val _) :: (Leaf.val _) :: (Leaf.val _) :: (Leaf.val _) :: (Leaf.val _) :: (Leaf.val _) :: (Leaf.val _) :: (Leaf.val _) :: (Leaf.val _) :: (Leaf.val _) :: (Leaf.val _) :: (Leaf.val _) :: (Leaf.val _) :: (Leaf.val _) :: (Leaf.val _) :: (Leaf.val _) :: (Leaf.val _) :: (Leaf.val _) :: ([] : List Leaf)) (k := 21) (b := #[0, 1, 0, 7, 0, 16, 48, 127, 255, 511, 1023, 511, 2559, 511, 14847, 32767, 511, 511, 197119, 524287, 1048575]) (ms := []) (E := Ext G0) mixed (by kernel_rfl) rfl (by kernel_rfl) rfl
          apply owed_walk rfl
          · intro w1 hw hf
            go_wp2
            exact ⟨rfl, rfl, Ext.refl _ _⟩
          · simp
          · go_simp
            try rfl
          apply owed_walk rfl
          · intro w1 hw hf
            have gR_0 := blk_cell (ext_heapD hw gR (fun x => x)) 0
            have gR_1 := blk_cell (ext_heapD hw gR (fun x => x)) 1
            have gR_2 := blk_cell (ext_heapD hw gR (fun x => x)) 2
            go_wp2
            exact ⟨rfl, rfl, Ext.refl _ _⟩
          · simp
          · go_simp
            try rfl
          apply owed_walk rfl
          · intro w1 hw hf
            go_wp2
            exact ⟨rfl, rfl, Ext.refl _ _⟩
          · simp
          · go_simp
            try rfl
          apply owed_walk rfl
          · intro w1 hw hf
            go_wp2
            exact ⟨rfl, rfl, Ext.refl _ _⟩
          · simp
          · go_simp
            try rfl
          apply owed_walk rfl
          · intro w1 hw hf
            go_wp2
            exact ⟨rfl, rfl, Ext.refl _ _⟩
          · simp
          · go_simp
            try rfl
          apply owed_walk rfl
          · intro w1 hw hf
            have gR_0 := blk_cell (ext_heapD hw gR (fun x => x)) 0
            have gR_1 := blk_cell (ext_heapD hw gR (fun x => x)) 1
            have gR_2 := blk_cell (ext_heapD hw gR (fun x => x)) 2
            go_wp2
            exact ⟨rfl, rfl, Ext.refl _ _⟩
          · simp
          · go_simp
            try rfl
          apply owed_walk rfl
          · intro w1 hw hf
            go_wp2
            exact ⟨rfl, rfl, Ext.refl _ _⟩
          · simp
          · go_simp
            try rfl
          apply owed_walk rfl
          · intro w1 hw hf
            go_wp2
            exact ⟨rfl, rfl, Ext.refl _ _⟩
          · simp
          · go_simp
            try rfl
          apply owed_walk rfl
          · intro w1 hw hf
            go_wp2
            exact ⟨rfl, rfl, Ext.refl _ _⟩
          · simp
          · go_simp
            try rfl
          apply owed_walk rfl
          · intro w1 hw hf
            go_wp2
            exact ⟨rfl, rfl, Ext.refl _ _⟩
          · simp
          · go_simp
            try rfl
          apply owed_walk rfl
          · intro w1 hw hf
            have gR_0 := blk_cell (ext_heapD hw gR (fun x => x)) 0
            have gR_1 := blk_cell (ext_heapD hw gR (fun x => x)) 1
            have gR_2 := blk_cell (ext_heapD hw gR (fun x => x)) 2
            go_wp2
            exact ⟨rfl, rfl, Ext.refl _ _⟩
          · simp
          · go_simp
            try rfl
          apply owed_walk rfl
          · intro w1 hw hf
            go_wp2
            exact ⟨rfl, rfl, Ext.refl _ _⟩
          · simp
          · go_simp
            try rfl
          apply owed_walk rfl
          · intro w1 hw hf
            have gR_0 := blk_cell (ext_heapD hw gR (fun x => x)) 0
            have gR_1 := blk_cell (ext_heapD hw gR (fun x => x)) 1
            have gR_2 := blk_cell (ext_heapD hw gR (fun x => x)) 2
            go_wp2
            exact ⟨rfl, rfl, Ext.refl _ _⟩
          · simp
          · go_simp
            try rfl
          apply owed_walk rfl
          · intro w1 hw hf
            go_wp2
            exact ⟨rfl, rfl, Ext.refl _ _⟩
          · simp
          · go_simp
            try rfl
          apply owed_walk rfl
          · intro w1 hw hf
            go_wp2
            exact ⟨rfl, rfl, Ext.refl _ _⟩
          · simp
          · go_simp
            try rfl
          apply owed_walk rfl
          · intro w1 hw hf
            go_wp2
            exact ⟨rfl, rfl, Ext.refl _ _⟩
          · simp
          · go_simp
            try rfl
          apply owed_walk rfl
          · intro w1 hw hf
            go_wp2
            exact ⟨rfl, rfl, Ext.refl _ _⟩
          · simp
          · go_simp
            try rfl
          apply owed_walk rfl
          · intro w1 hw hf
            go_wp2
            exact ⟨rfl, rfl, Ext.refl _ _⟩
          · simp
          · go_simp
            try rfl
          apply owed_walk rfl
          · intro w1 hw hf
            go_wp2
            exact ⟨rfl, rfl, Ext.refl _ _⟩
          · simp
          · go_simp
            try rfl
          apply owed_walk rfl
          · intro w1 hw hf
            go_wp2
            exact ⟨rfl, rfl, Ext.refl _ _⟩
          · simp
          · go_simp
            try rfl
          apply owed_walk rfl
          · intro w1 hw hf
            go_wp2
            exact ⟨rfl, rfl, Ext.refl _ _⟩
          · simp
          · go_simp
            try rfl
          apply owed_end
          intro w5 hw _
          refine Tail.nil rfl ?_
          replace gR := ext_heapD hw gR (fun x => x)
          replace gO := ext_heapD hw gO (fun x => x)
          replace hx := hx.trans hw.ofDrew
          clear hw
          go_wp2
          go_roundg (word.size - (k + 1))
          case rel => exact ⟨k + 1, rfl, by go_num, by omega, by have := HQ.out; omega, by
            have := HF.out
            rw [if_neg (by rintro (h | h); omega; exact h HB.out)] at this
            exact this, gR, gO, hx⟩
          case measure => omega
        · have hfin : st = .fail q 130 := by
            have h := HF.out
            rw [if_pos (by by_cases h : q = s.size; exact .inl h; exact .inr fun h2 => hgo ⟨by omega, h2⟩)] at h
            rw [hst.out, wantR, ← h, hq]
          have HFIN := Lib.hid hfin
          have hcase : q = s.size ∨ (q < s.size ∧ byteA s q ≠ byteA word k) := by
            by_cases h : q = s.size
            · exact .inl h
            · exact .inr ⟨by omega, fun h2 => hgo ⟨by omega, h2⟩⟩
          clear hgo hfin hq
          rcases hcase with hql | ⟨hql, hb⟩
          · have h1 : decide (s.size ≤ q) = true := by simp; omega
            have HQL := Lib.hid hql
            clear hql
            go_wp2_with fail
            apply region_phi (leaves := (Leaf.val _) :: (Leaf.val _) :: (Leaf.val _) :: (Leaf.val _) :: (Leaf.val _) :: (Leaf.val _) :: (Leaf.val _) :: (Leaf.val _) :: (Leaf.val _) :: (Leaf.val _) :: (Leaf.val _) :: (Leaf.val _) :: (Leaf.val _) :: (Leaf.val _) :: (Leaf.val _) :: (Leaf.val _) :: (Leaf.val _) :: (Leaf.val _) :: (Leaf.val _) :: (Leaf.val _) :: (Leaf.val _) :: ([] : List Leaf)) (k := 21) (b := #[0, 1, 0, 7, 0, 16, 48, 127, 255, 511, 1023, 511, 2559, 511, 14847, 32767, 511, 511, 197119, 524287, 1048575]) (ms := []) (E := Ext G0) mixed (by kernel_rfl) rfl (by kernel_rfl) rfl
            apply owed_walk rfl
            · intro w1 hw hf
              go_wp2
              exact ⟨rfl, rfl, Ext.refl _ _⟩
            · simp
            · go_simp
              try rfl
            apply owed_walk rfl
            · intro w1 hw hf
              have gR_0 := blk_cell (ext_heapD hw gR (fun x => x)) 0
              have gR_1 := blk_cell (ext_heapD hw gR (fun x => x)) 1
              have gR_2 := blk_cell (ext_heapD hw gR (fun x => x)) 2
              go_wp2
              exact ⟨rfl, rfl, Ext.refl _ _⟩
            · simp
            · go_simp
              try rfl
            apply owed_walk rfl
            · intro w1 hw hf
              go_wp2
              exact ⟨rfl, rfl, Ext.refl _ _⟩
            · simp
            · go_simp
              try rfl
            apply owed_walk rfl
            · intro w1 hw hf
              go_wp2
              exact ⟨rfl, rfl, Ext.refl _ _⟩
            · simp
            · go_simp
              try rfl
            apply owed_walk rfl
            · intro w1 hw hf
              go_wp2
              exact ⟨rfl, rfl, Ext.refl _ _⟩
            · simp
            · go_simp
              try rfl
            apply owed_walk rfl
            · intro w1 hw hf
              have gR_0 := blk_cell (ext_heapD hw gR (fun x => x)) 0
              have gR_1 := blk_cell (ext_heapD hw gR (fun x => x)) 1
              have gR_2 := blk_cell (ext_heapD hw gR (fun x => x)) 2
              go_wp2
              exact ⟨rfl, rfl, Ext.refl _ _⟩
            · simp
            · go_simp
              try rfl
            apply owed_walk rfl
            · intro w1 hw hf
              go_wp2
              exact ⟨rfl, rfl, Ext.refl _ _⟩
            · simp
            · go_simp
              try rfl
            apply owed_walk rfl
            · intro w1 hw hf
              go_wp2
              exact ⟨rfl, rfl, Ext.refl _ _⟩
            · simp
            · go_simp
              try rfl
            apply owed_walk rfl
            · intro w1 hw hf
              go_wp2
              exact ⟨rfl, rfl, Ext.refl _ _⟩
            · simp
            · go_simp
              try rfl
            apply owed_walk rfl
            · intro w1 hw hf
              go_wp2
              exact ⟨rfl, rfl, Ext.refl _ _⟩
            · simp
            · go_simp
              try rfl
            apply owed_walk rfl
            · intro w1 hw hf
              have gR_0 := blk_cell (ext_heapD hw gR (fun x => x)) 0
              have gR_1 := blk_cell (ext_heapD hw gR (fun x => x)) 1
              have gR_2 := blk_cell (ext_heapD hw gR (fun x => x)) 2
              go_wp2
              exact ⟨rfl, rfl, Ext.refl _ _⟩
            · simp
            · go_simp
              try rfl
            apply owed_walk rfl
            · intro w1 hw hf
              go_wp2
              exact ⟨rfl, rfl, Ext.refl _ _⟩
            · simp
            · go_simp
              try rfl
            apply owed_walk rfl
            · intro w1 hw hf
              have gR_0 := blk_cell (ext_heapD hw gR (fun x => x)) 0
              have gR_1 := blk_cell (ext_heapD hw gR (fun x => x)) 1
              have gR_2 := blk_cell (ext_heapD hw gR (fun x => x)) 2
              go_wp2
              exact ⟨rfl, rfl, Ext.refl _ _⟩
            · simp
            · go_simp
              try rfl
            apply owed_walk rfl
            · intro w1 hw hf
              go_wp2
              exact ⟨rfl, rfl, Ext.refl _ _⟩
            · simp
            · go_simp
              try rfl
            apply owed_walk rfl
            · intro w1 hw hf
              go_wp2
              exact ⟨rfl, rfl, Ext.refl _ _⟩
            · simp
            · go_simp
              try rfl
            apply owed_walk rfl
            · intro w1 hw hf
              go_wp2
              exact ⟨rfl, rfl, Ext.refl _ _⟩
            · simp
            · go_simp
              try rfl
            apply owed_walk rfl
            · intro w1 hw hf
              go_wp2
              exact ⟨rfl, rfl, Ext.refl _ _⟩
            · simp
            · go_simp
              try rfl
            apply owed_walk rfl
            · intro w1 hw hf
              go_wp2
              exact ⟨rfl, rfl, Ext.refl _ _⟩
            · simp
            · go_simp
              try rfl
            apply owed_walk rfl
            · intro w1 hw hf
              go_wp2
              exact ⟨rfl, rfl, Ext.refl _ _⟩
            · simp
            · go_simp
              try rfl
            apply owed_walk rfl
            · intro w1 hw hf
              go_wp2
              exact ⟨rfl, rfl, Ext.refl _ _⟩
            · simp
            · go_simp
              try rfl
            apply owed_walk rfl
            · intro w1 hw hf
              go_wp2
              exact ⟨rfl, rfl, Ext.refl _ _⟩
            · simp
            · go_simp
              try rfl
            apply owed_end
            intro w5 hw _
            refine Tail.nil rfl ?_
            replace gR := ext_heapD hw gR (fun x => x)
            replace gO := ext_heapD hw gO (fun x => x)
            replace hx := hx.trans hw.ofDrew
            clear hw
            have gR_0 := blk_cell gR 0
            have gR_1 := blk_cell gR 1
            have gR_2 := blk_cell gR 2
            have gRz := blk_free gR
            have gRl := lt_of_block gR
            have gO_0 := blk_cell gO 0
            have gO_1 := blk_cell gO 1
            have gO_2 := blk_cell gO 2
            have gOz := blk_free gO
            have gOl := lt_of_block gO
            go_wp2_with (go_at_call 62; ((with_reducible refine (rfail_any s p 0 q 130 _).mono ?_); rintro e w2 ⟨rfl, hx2⟩); replace gR := ext_heap hx2 gR (fun x => x); replace gO := ext_heap hx2 gO (fun x => x); replace hx := hx.trans hx2; have r0 := blk_cell gO 0; have r1 := blk_cell gO 1; have r2 := blk_cell gO 2; have z := blk_free gO; have hlz := lt_of_block gO)
            refine bodyPost_ret (v := .tuple #[rdV s st.pos st.err, .bool (st.val false)]) (by rw [HFIN.out]; simp [results, Try.results49, go_sem, r0, r1, r2, Res.pos, Res.err, Res.val]) rfl ⟨rfl, ?_⟩
            exact ((hx.set (by simp) _).set (by simp) _).set (by simp) _
          · have h1 : decide (s.size ≤ q) = false := by simp; omega
            have i1 : (q : Int) < (s.size : Int) := by omega
            have e1 := byteA_eq hql
            have e2 := byteA_eq hlt
            have h2 : ((byteA s q : Int) != (byteA word k : Int)) = true := by simp; omega
            clear hb
            go_wp2_with fail
            apply region_phi (leaves := (Leaf.val _) :: (Leaf.val _) :: (Leaf.val _) :: (Leaf.val _) :: (Leaf.val _) :: (Leaf.val _) :: (Leaf.val _) :: (Leaf.val _) :: (Leaf.val _) :: (Leaf.val _) :: (Leaf.val _) :: (Leaf.val _) :: (Leaf.val _) :: (Leaf.val _) :: (Leaf.val _) :: (Leaf.val _) :: (Leaf.val _) :: (Leaf.val _) :: (Leaf.val _) :: (Leaf.val _) :: (Leaf.val _) :: ([] : List Leaf)) (k := 21) (b := #[0, 1, 0, 7, 0, 16, 48, 127, 255, 511, 1023, 511, 2559, 511, 14847, 32767, 511, 511, 197119, 524287, 1048575]) (ms := []) (E := Ext G0) mixed (by kernel_rfl) rfl (by kernel_rfl) rfl
            apply owed_walk rfl
            · intro w1 hw hf
              go_wp2
              exact ⟨rfl, rfl, Ext.refl _ _⟩
            · simp
            · go_simp
              try rfl
            apply owed_walk rfl
            · intro w1 hw hf
              have gR_0 := blk_cell (ext_heapD hw gR (fun x => x)) 0
              have gR_1 := blk_cell (ext_heapD hw gR (fun x => x)) 1
              have gR_2 := blk_cell (ext_heapD hw gR (fun x => x)) 2
              go_wp2
              exact ⟨rfl, rfl, Ext.refl _ _⟩
            · simp
            · go_simp
              try rfl
            apply owed_walk rfl
            · intro w1 hw hf
              go_wp2
              exact ⟨rfl, rfl, Ext.refl _ _⟩
            · simp
            · go_simp
              try rfl
            apply owed_walk rfl
            · intro w1 hw hf
              go_wp2
              exact ⟨rfl, rfl, Ext.refl _ _⟩
            · simp
            · go_simp
              try rfl
            apply owed_walk rfl
            · intro w1 hw hf
              go_wp2
              exact ⟨rfl, rfl, Ext.refl _ _⟩
            · simp
            · go_simp
              try rfl
            apply owed_walk rfl
            · intro w1 hw hf
              have gR_0 := blk_cell (ext_heapD hw gR (fun x => x)) 0
              have gR_1 := blk_cell (ext_heapD hw gR (fun x => x)) 1
              have gR_2 := blk_cell (ext_heapD hw gR (fun x => x)) 2
              go_wp2
              exact ⟨rfl, rfl, Ext.refl _ _⟩
            · simp
            · go_simp
              try rfl
            apply owed_walk rfl
            · intro w1 hw hf
              go_wp2
              exact ⟨rfl, rfl, Ext.refl _ _⟩
            · simp
            · go_simp
              try rfl
            apply owed_walk rfl
            · intro w1 hw hf
              go_wp2
              exact ⟨rfl, rfl, Ext.refl _ _⟩
            · simp
            · go_simp
              try rfl
            apply owed_walk rfl
            · intro w1 hw hf
              go_wp2
              exact ⟨rfl, rfl, Ext.refl _ _⟩
            · simp
            · go_simp
              try rfl
            apply owed_walk rfl
            · intro w1 hw hf
              go_wp2
              exact ⟨rfl, rfl, Ext.refl _ _⟩
            · simp
            · go_simp
              try rfl
            apply owed_walk rfl
            · intro w1 hw hf
              have gR_0 := blk_cell (ext_heapD hw gR (fun x => x)) 0
              have gR_1 := blk_cell (ext_heapD hw gR (fun x => x)) 1
              have gR_2 := blk_cell (ext_heapD hw gR (fun x => x)) 2
              go_wp2
              exact ⟨rfl, rfl, Ext.refl _ _⟩
            · simp
            · go_simp
              try rfl
            apply owed_walk rfl
            · intro w1 hw hf
              go_wp2
              exact ⟨rfl, rfl, Ext.refl _ _⟩
            · simp
            · go_simp
              try rfl
            apply owed_walk rfl
            · intro w1 hw hf
              have gR_0 := blk_cell (ext_heapD hw gR (fun x => x)) 0
              have gR_1 := blk_cell (ext_heapD hw gR (fun x => x)) 1
              have gR_2 := blk_cell (ext_heapD hw gR (fun x => x)) 2
              go_wp2
              exact ⟨rfl, rfl, Ext.refl _ _⟩
            · simp
            · go_simp
              try rfl
            apply owed_walk rfl
            · intro w1 hw hf
              go_wp2
              exact ⟨rfl, rfl, Ext.refl _ _⟩
            · simp
            · go_simp
              try rfl
            apply owed_walk rfl
            · intro w1 hw hf
              go_wp2
              exact ⟨rfl, rfl, Ext.refl _ _⟩
            · simp
            · go_simp
              try rfl
            apply owed_walk rfl
            · intro w1 hw hf
              go_wp2
              exact ⟨rfl, rfl, Ext.refl _ _⟩
            · simp
            · go_simp
              try rfl
            apply owed_walk rfl
            · intro w1 hw hf
              go_wp2
              exact ⟨rfl, rfl, Ext.refl _ _⟩
            · simp
            · go_simp
              try rfl
            apply owed_walk rfl
            · intro w1 hw hf
              go_wp2
              exact ⟨rfl, rfl, Ext.refl _ _⟩
            · simp
            · go_simp
              try rfl
            apply owed_walk rfl
            · intro w1 hw hf
              go_wp2
              exact ⟨rfl, rfl, Ext.refl _ _⟩
            · simp
            · go_simp
              try rfl
            apply owed_walk rfl
            · intro w1 hw hf
              go_wp2
              exact ⟨rfl, rfl, Ext.refl _ _⟩
            · simp
            · go_simp
              try rfl
            apply owed_walk rfl
            · intro w1 hw hf
              go_wp2
              exact ⟨rfl, rfl, Ext.refl _ _⟩
            · simp
            · go_simp
              try rfl
            apply owed_end
            intro w5 hw _
            refine Tail.nil rfl ?_
            replace gR := ext_heapD hw gR (fun x => x)
            replace gO := ext_heapD hw gO (fun x => x)
            replace hx := hx.trans hw.ofDrew
            clear hw
            have gR_0 := blk_cell gR 0
            have gR_1 := blk_cell gR 1
            have gR_2 := blk_cell gR 2
            have gRz := blk_free gR
            have gRl := lt_of_block gR
            have gO_0 := blk_cell gO 0
            have gO_1 := blk_cell gO 1
            have gO_2 := blk_cell gO 2
            have gOz := blk_free gO
            have gOl := lt_of_block gO
            go_wp2_with (go_at_call 62; ((with_reducible refine (rfail_any s p 0 q 130 _).mono ?_); rintro e w2 ⟨rfl, hx2⟩); replace gR := ext_heap hx2 gR (fun x => x); replace gO := ext_heap hx2 gO (fun x => x); replace hx := hx.trans hx2; have r0 := blk_cell gO 0; have r1 := blk_cell gO 1; have r2 := blk_cell gO 2; have z := blk_free gO; have hlz := lt_of_block gO)
            refine bodyPost_ret (v := .tuple #[rdV s st.pos st.err, .bool (st.val false)]) (by rw [HFIN.out]; simp [results, Try.results49, go_sem, r0, r1, r2, Res.pos, Res.err, Res.val]) rfl ⟨rfl, ?_⟩
            exact ((hx.set (by simp) _).set (by simp) _).set (by simp) _
      · have hfin : st = .ok true (p + word.size) := by
          rw [hst.out, wantR, ← hF, show word.size - k = 0 by omega]; rfl
        have hpw : p + word.size ≤ s.size := by omega
        have HFIN := Lib.hid hfin
        have i3 : ¬ k < word.size := hlt
        have s4 := IntWalk.i64_in ((p : Int) + (word.size : Int)) (by omega)
        clear hF hfin hq
        have gR_0 := blk_cell gR 0
        have gR_1 := blk_cell gR 1
        have gR_2 := blk_cell gR 2
        have gRz := blk_free gR
        have gRl := lt_of_block gR
        have gO_0 := blk_cell gO 0
        have gO_1 := blk_cell gO 1
        have gO_2 := blk_cell gO 2
        have gOz := blk_free gO
        have gOl := lt_of_block gO
        go_wp2
        refine bodyPost_ret (v := .tuple #[rdV s st.pos st.err, .bool (st.val false)]) (by rw [HFIN.out]; simp [results, Try.results49, go_sem, gO_0, gO_1, gO_2, Res.pos, Res.err, Res.val]) rfl ⟨rfl, ?_⟩
        exact (((hx.set (by simp) _).set (by simp) _).set (by simp) _).set (by simp) _
  · have t1 : (er != 0) = true := by simp [he]
    rw [show stepR p er (wantR s word p) = .fail p er from if_neg he]
    go_enter Try.func49, Try.ntmps49
    go_wp2
    refine bodyPost_ret (v := .tuple #[rdV s p er, .bool false]) (by simp [results, Try.results49, go_sem]) rfl ⟨rfl, ?_⟩
    exact ((Ext.refl _ _).alloc _).alloc _

end Go.Proofs.Ytejialnbelleeaa
