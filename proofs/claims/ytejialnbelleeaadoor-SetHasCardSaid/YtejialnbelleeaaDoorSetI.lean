/-
  Package set: FromRuns. Ahead of it: 'copy' where an element takes more than one cell.
-/
import Derived.Test.YtejialnbelleeaaDoorSetH
import Derived.Laws.CopyOwn
import Derived.Laws.IdiomCopy
import Derived.Laws.MakeOwn
namespace Go.Proofs.YtejialnbelleeaaDoor
open Go Go.RowKit

theorem run_copy_rowN {P : Program} (w : World) (dT sT ty elem : TypeId) (sz g o dLen dCap : Nat) (a : Addr) (sLen sCap : Nat) (cur : Array Value) (t : TypeId) (cs : List Value)
    (hu : P.underlying dT = some (.slice elem)) (hs : (P.info? elem).map (·.size) = some sz)
    (hg : w.heap[g]? = some (.cells cur t (0, 0))) (hn : cs.length = Nat.min sLen dLen * sz)
    (hsrc : ∀ j v, cs[j]? = some v → w.cell? (a.add j) = some v) (hfit : o + cs.length ≤ cur.size) (h1 : ∀ v ∈ cs, v.oneCell' = true) :
    (Builtin.copy_ #[dT, sT] ty #[.slice (some ⟨g, o, none⟩) dLen dCap, .slice (some a) sLen sCap]).run P w =
      .ok (goInt (Nat.min sLen dLen)) (w.setRow g (cur.toList.take o ++ cs ++ cur.toList.drop (o + cs.length)).toArray) := by
  have hl := run_loadCells_list (P := P) w a cs hsrc
  have hst := run_storeCells_at P g o t cs 0 cur w hg (by simpa using hfit) h1
  cases hq : P.info? elem with
  | none => simp [hq] at hs
  | some i =>
    have hi : i.size = sz := by simpa [hq] using hs
    simp [Builtin.copy_, run_underlying hu, Builtin.lenOf, Builtin.firstCells, sizeOf, typeInfo, hq, hi, ← hn, hl, hst]

theorem wpList_copy_run {P : Program} {w : World} {ops : Array Oper} {rest : List Oper} {o : Oper} {a : Act} {Q : Exit → Act → World → Prop} (hgd : o.guard = none) (d s : Operand) (dT sT : TypeId)
    (ho : o.op = .call { callee := .builtin .copy, args := #[d, s], argTypes := #[dT, sT] }) (vd vs r : Value) (w' : World) (hd : a.eval d = vd) (hs : a.eval s = vs)
    (hrun : (Builtin.copy_ #[dT, sT] o.type #[vd, vs]).run P w = .ok r w')
    (h : wpList P ops Q rest (a.put o.dst r) w') : wpList P ops Q (o :: rest) a w := by
  refine wpList_plain hgd fun K hK => ?_
  unfold Oper.wp
  simp [execOp, ho, resolve, invoke, builtin, hd, hs, hrun, Result.andThen]
  exact hK _ _ h

theorem run_copy_noneN {P : Program} (w : World) (dT sT ty elem : TypeId) (sz : Nat) (d a : Option Addr) (dLen dCap sLen sCap : Nat) (hu : P.underlying dT = some (.slice elem)) (hs : (P.info? elem).map (·.size) = some sz) (hn : Nat.min sLen dLen = 0) :
    (Builtin.copy_ #[dT, sT] ty #[.slice d dLen dCap, .slice a sLen sCap]).run P w = .ok (goInt 0) w := by
  cases hq : P.info? elem with
  | none => simp [hq] at hs
  | some i =>
    have hl : ∀ (x : Addr), (loadCells x 0).run P w = .ok #[] w := fun x => by simpa using run_loadCells_list (P := P) w x [] (by simp)
    cases d <;> cases a <;> simp [Builtin.copy_, run_underlying hu, Builtin.lenOf, Builtin.firstCells, sizeOf, typeInfo, hq, hn, storeCells, hl]

abbrev RunsAt := SlAt 2 runL

/-- The set of runs that stand in order. -/
def fromU : List RunN → Nat → Bs → Option Bs
  | [], _, acc => some acc
  | r :: l, lb, acc => if r.2 < r.1 ∨ r.1 < lb then none else fromU l (r.2 + 2) (acc ||| spanS r.1 r.2)
def fromS (l : List RunN) : Option Bs := fromU l 0 0#256
def fromV : Option Bs → Value
  | some s => .tuple #[setV s, .int .i64 0]
  | none => .tuple #[setV 0#256, .int .i64 111]

theorem flat_some {α β : Type} (sz : Nat) (enc : α → List β) : ∀ (l : List α), (∀ x ∈ l, (enc x).length = sz) → ∀ (j : Nat) (y : β), (l.flatMap enc)[j]? = some y → ∃ i x, l[i]? = some x ∧ (enc x)[j - i * sz]? = some y ∧ i * sz ≤ j ∧ j < i * sz + sz
  | [], _, j, y, h => by simp at h
  | x :: l, hsz, j, y, h => by
    have hx := hsz x (by simp)
    rw [List.flatMap_cons] at h
    by_cases hj : j < sz
    · rw [List.getElem?_append_left (by omega)] at h
      exact ⟨0, x, rfl, by simpa using h, by omega, by omega⟩
    · rw [List.getElem?_append_right (by omega), hx] at h
      obtain ⟨i, z, h1, h2, h3, h4⟩ := flat_some sz enc l (fun z hz => hsz z (by simp [hz])) _ _ h
      refine ⟨i + 1, z, by simpa using h1, ?_, ?_, ?_⟩
      · rw [show j - (i + 1) * sz = j - sz - i * sz by rw [Nat.add_mul]; omega]; exact h2
      · rw [Nat.add_mul]; omega
      · rw [Nat.add_mul]; omega

theorem runs_src {w : World} {l : List RunN} {b off : Nat} (h : ∀ i x, l[i]? = some x → ∀ j y, (runL x)[j]? = some y → w.cell? ⟨b, off + i * 2 + j, none⟩ = some y) : ∀ j v, (runsL l)[j]? = some v → w.cell? ((⟨b, off, none⟩ : Addr).add j) = some v := by
  intro j v hj
  obtain ⟨i, x, h1, h2, h3, h4⟩ := flat_some 2 runL l (fun _ _ => rfl) j v hj
  have := h i x h1 _ _ h2
  rw [show (⟨b, off, none⟩ : Addr).add j = ⟨b, off + i * 2 + (j - i * 2), none⟩ by simp [Addr.add]; split <;> simp_all <;> omega]
  exact this

def lbOf (l : List RunN) : Nat → Nat
  | 0 => 0
  | k + 1 => match l[k]? with
    | some r => r.2 + 2
    | none => 0
theorem fromU_step {l : List RunN} {k : Nat} {acc : Bs} (hk : k < l.length) : fromU (l.drop k) (lbOf l k) acc = if l[k].2 < l[k].1 ∨ l[k].1 < lbOf l k then none else fromU (l.drop (k + 1)) (lbOf l (k + 1)) (acc ||| spanS l[k].1 l[k].2) := by
  rw [List.drop_eq_getElem_cons hk, fromU, show lbOf l (k + 1) = l[k].2 + 2 by simp only [lbOf, List.getElem?_eq_getElem hk]]

theorem size_run : (Tryd.prog.info? 32).map (·.size) = some 2 := by kernel_rfl

set_option maxRecDepth 100000 in
set_option maxHeartbeats 2000000 in
theorem fromRuns_any (l : List RunN) (v : Value) (w : World) (hv : RunsAt w v l) (hl : ∀ r ∈ l, r.1 < 256 ∧ r.2 < 256) :
    Calls Tryd.prog 12 #[v] w fun e w' => e = .returned (fromV (fromS l)) ∧ Below w.heap.size w w' := by
  obtain ⟨i0, hi, hz0, hz1, hz2⟩ := info_parts info_run
  obtain ⟨A, c, rfl, ⟨hc, hmax⟩, hv⟩ := hv
  have hmk : ∀ w, (Instr.makeSlice 25 (.int .i64 (l.length : Int)) (.int .i64 (l.length : Int))).run Tryd.prog w = .ok (.slice (some ⟨w.heap.size, 0, none⟩) l.length l.length) (w.alloc (.cells (madeCells #[.int .u8 0, .int .u8 0] (l.length * 2)) 32)) := fun w => by
    have := run_make (P := Tryd.prog) w 25 32 i0 _ Tryd.underlying25 hi hz0 .i64 .i64 l.length l.length (by omega) (by omega) (by rw [hz2]; omega) (by omega)
    rw [hz1, show (Value.agg #[Value.int .u8 0, Value.int .u8 0]).cells = #[.int .u8 0, .int .u8 0] from rfl] at this
    simpa using this
  go_enter Tryd.func12, Tryd.ntmps12
  have hcp : ∃ W3 r, (Builtin.copy_ #[25, 25] 3 #[.slice (some ⟨w.heap.size + 1, 0, none⟩) l.length l.length, .slice A l.length c]).run Tryd.prog
        ((w.alloc (.cells #[.int .u64 0, .int .u64 0, .int .u64 0, .int .u64 0] 24)).alloc (.cells (madeCells #[.int .u8 0, .int .u8 0] (l.length * 2)) 32)) = .ok r W3 ∧
      W3.heap.size = w.heap.size + 2 ∧ Below w.heap.size w W3 ∧ W3.heap[w.heap.size]? = some (.cells (setC 0#256) 24 (0, 0)) ∧ ∃ cs : Array Value, W3.heap[w.heap.size + 1]? = some (.cells cs 32 (0, 0)) ∧ ∀ (j : Nat) (x : Value), (runsL l)[j]? = some x → (cs : Array Value)[(j : Nat)]? = some (x : Value) := by
    have h0 := heap_two' w (.cells #[.int .u64 0, .int .u64 0, .int .u64 0, .int .u64 0] 24) (.cells (madeCells #[.int .u8 0, .int .u8 0] (l.length * 2)) 32)
    have h1 := heap_two w (.cells #[.int .u64 0, .int .u64 0, .int .u64 0, .int .u64 0] 24) (.cells (madeCells #[.int .u8 0, .int .u8 0] (l.length * 2)) 32)
    have hB : Below w.heap.size w ((w.alloc (.cells #[.int .u64 0, .int .u64 0, .int .u64 0, .int .u64 0] 24)).alloc (.cells (madeCells #[.int .u8 0, .int .u8 0] (l.length * 2)) 32)) := ((Below.refl _ w).alloc (Nat.le_refl _) _).alloc (by simp) _
    have hs : ((w.alloc (.cells #[.int .u64 0, .int .u64 0, .int .u64 0, .int .u64 0] 24)).alloc (.cells (madeCells #[.int .u8 0, .int .u8 0] (l.length * 2)) 32)).heap.size = w.heap.size + 2 := by simp
    have hsrc : ∀ b off, (∀ i x, l[i]? = some x → ∀ j y, (runL x)[j]? = some y → w.cell? ⟨b, off + i * 2 + j, none⟩ = some y) → ∀ j v, (runsL l)[j]? = some v → ((w.alloc (.cells #[.int .u64 0, .int .u64 0, .int .u64 0, .int .u64 0] 24)).alloc (.cells (madeCells #[.int .u8 0, .int .u8 0] (l.length * 2)) 32)).cell? ((⟨b, off, none⟩ : Addr).add j) = some v := fun b off h j v hj =>
      cell_ext (((Ext.refl _ w).alloc _).alloc _) (runs_src h j v hj)
    generalize World.alloc (World.alloc w _) _ = w2 at *
    have hL := runsL_length l
    rcases hv with rfl | ⟨b, off, rfl, hcell⟩
    · exact ⟨w2, _, run_copy_noneN w2 _ _ _ 32 2 _ _ _ _ _ _ Tryd.underlying25 size_run (by simp), hs, hB, h0, _, h1, by simp [runsL]⟩
    · refine ⟨_, _, run_copy_rowN w2 _ _ _ 32 2 (w.heap.size + 1) 0 l.length l.length ⟨b, off, none⟩ l.length c _ _ (runsL l) Tryd.underlying25 size_run h1 (by rw [hL]; simp) (hsrc b off hcell) (by rw [hL]; simp [madeCells]) ?_, ?_, below_setRow hB (by omega) _, ?_, ?_⟩
      · intro v hv
        simp only [runsL, List.mem_flatMap] at hv
        obtain ⟨r, _, hr⟩ := hv
        simp only [runL, List.mem_cons, List.not_mem_nil, or_false] at hr
        rcases hr with rfl | rfl <;> rfl
      · rw [← hs]; simp [World.setRow]
      · exact (setRow_other _ _ _ _ (by omega)).trans h0
      · refine ⟨_, setRow_heap _ _ _ _ _ _ h1, fun j x hj => ?_⟩
        rw [List.getElem?_toArray, List.append_assoc, List.take_zero, List.nil_append, List.getElem?_append_left (by have := List.getElem?_eq_some_iff.1 hj; exact this.1)]
        exact hj
  obtain ⟨W3, r3, hcp, hs3, hB3, hR3, cs, hO3, hcs⟩ := hcp
  clear hv
  have hxs : Ext G0 w W3 := ⟨hB3.os, hB3.tape, hB3.output, hB3.size, fun k hk _ => hB3.block k hk⟩
  go_wp2
  generalize hwz : World.alloc W3 _ = wz
  have hG : wz.heap[w.heap.size + 2]? = some (.cells (setC 0#256) 76 (0, 0)) := by rw [← hwz]; exact heap_at _ _ _ hs3
  have hR : wz.heap[w.heap.size]? = some (.cells (setC 0#256) 24 (0, 0)) := by rw [← hwz]; exact heap_past hR3 _
  have hO : wz.heap[w.heap.size + 1]? = some (.cells cs 32 (0, 0)) := by rw [← hwz]; exact heap_past hO3 _
  have hxz : Ext G0 w wz := by rw [← hwz]; exact hxs.alloc _
  clear hwz hcp hxs hR3 hO3 hB3
  go_loopw [23] (fun i wr => ∃ (k : Nat) (acc : Bs), k ≤ l.length ∧ i = .int .i64 (k : Int) ∧ fromU (l.drop k) (lbOf l k) acc = fromS l ∧ wr.heap[w.heap.size + 2]? = some (.cells (setC acc) 76 (0, 0)) ∧
      wr.heap[w.heap.size]? = some (.cells (setC 0#256) 24 (0, 0)) ∧ wr.heap[w.heap.size + 1]? = some (.cells cs 32 (0, 0)) ∧ Ext G0 w wr) (fun i _ => l.length - (intOf i).toNat)
  case atStart =>
    exact ⟨0, 0#256, by omega, rfl, rfl, hG, hR, hO, hxz⟩
  case round =>
    obtain ⟨k, acc, hk, rfl, hfu, hG, hR, hO, hx⟩ := hrel
    have hL := runsL_length l
    by_cases hlt : k < l.length
    · have hbd := hl l[k] (List.getElem_mem hlt)
      have hlo : wr.cell? ⟨w.heap.size + 1, k * 2, none⟩ = some (.int .u8 (l[k].1 : Int)) := by
        rw [blk_cell hO]
        have := flat_get 2 runL l (fun _ _ => rfl) k l[k] (by simp [hlt]) 0 _ rfl
        exact hcs _ _ this
      have hhi : wr.cell? ⟨w.heap.size + 1, k * 2 + 1, none⟩ = some (.int .u8 (l[k].2 : Int)) := by
        rw [blk_cell hO]
        have := flat_get 2 runL l (fun _ _ => rfl) k l[k] (by simp [hlt]) 1 _ rfl
        exact hcs _ _ this
      rw [fromU_step hlt] at hfu
      generalize l[k] = r at *
      obtain ⟨lo, hh⟩ := r
      simp only at hfu hbd hlo hhi
      obtain ⟨hb1, hb2⟩ := hbd
      have b1 : (0 : Int) ≤ (lo : Int) := by omega
      have b2 : (lo : Int) < 256 := by omega
      have b3 : (0 : Int) ≤ (hh : Int) := by omega
      have b4 : (hh : Int) < 256 := by omega
      have z := blk_free hR
      cases k with
      | zero =>
        by_cases hc1 : hh < lo
        · rw [if_pos (.inl hc1)] at hfu
          have hc1' : (hh : Int) < (lo : Int) := by omega
          go_wp2
          generalize hwy : World.alloc wr _ = wy
          have hB : wy.heap[wr.heap.size]? = some (.cells #[.int .u8 (lo : Int), .int .u8 (hh : Int)] 32 (0, 0)) := by rw [← hwy]; exact heap_new _ _
          replace hG := heap_past hG (.cells #[.int .u8 (lo : Int), .int .u8 (hh : Int)] 32)
          replace hR := heap_past hR (.cells #[.int .u8 (lo : Int), .int .u8 (hh : Int)] 32)
          replace hO := heap_past hO (.cells #[.int .u8 (lo : Int), .int .u8 (hh : Int)] 32)
          replace hx := hx.alloc (.cells #[.int .u8 (lo : Int), .int .u8 (hh : Int)] 32)
          rw [hwy] at hG hR hO hx
          clear hwy hlo hhi
          apply region_phi (leaves := (Leaf.val _) :: (Leaf.val _) :: (Leaf.val _) :: (Leaf.val _) :: (Leaf.val _) :: (Leaf.val _) :: (Leaf.val _) :: (Leaf.val _) :: (Leaf.val _) :: (Leaf.val _) :: (Leaf.val _) :: (Leaf.val _) :: (Leaf.val _) :: (Leaf.val _) :: (Leaf.val _) :: (Leaf.val _) :: (Leaf.val _) :: (Leaf.val _) :: (Leaf.val _) :: (Leaf.val _) :: (Leaf.val _) :: (Leaf.val _) :: (Leaf.val _) :: ([] : List Leaf)) (k := 23) (b := #[0, 1, 0, 4, 15, 31, 63, 127, 255, 511, 1023, 2047, 511, 511, 8703, 29183, 61951, 127487, 258559, 520703, 1048575, 2097151, 4194303]) (ms := []) (E := Ext G0) mixed (by kernel_rfl) rfl (by kernel_rfl) rfl
          iterate 23
            apply owed_walk rfl
            · intro w1 hw hf
              have r0 := blk_cell (ext_heapD hw hB (fun x => x)) 0
              have r1 := blk_cell (ext_heapD hw hB (fun x => x)) 1
              go_wp2
              exact ⟨rfl, rfl, Ext.refl _ _⟩
            · simp
            · go_simp
              try rfl
          apply owed_end
          intro w1 hw _
          refine Tail.nil rfl ?_
          replace hR := ext_heapD hw hR (fun x => x)
          have hx1 := hx.trans hw.ofDrew
          obtain ⟨r0, r1, r2, r3⟩ := cells4 hR
          have z := blk_free hR
          clear hG hO hB
          go_wp2
          refine bodyPost_ret (v := fromV none) (by simp [results, Tryd.results12, go_sem, r0, r1, r2, r3]; rfl) rfl ⟨by rw [← hfu], ?_⟩
          exact ((((hx1.set (Nat.le_refl _) _).set (Nat.le_refl _) _).set (Nat.le_refl _) _).set (Nat.le_refl _) _).below
        · rw [if_neg (by simp [lbOf, hc1])] at hfu
          have hc1' : ¬ (hh : Int) < (lo : Int) := by omega
          go_wp2
          generalize hwy : World.alloc wr _ = wy
          have hB : wy.heap[wr.heap.size]? = some (.cells #[.int .u8 (lo : Int), .int .u8 (hh : Int)] 32 (0, 0)) := by rw [← hwy]; exact heap_new _ _
          replace hG := heap_past hG (.cells #[.int .u8 (lo : Int), .int .u8 (hh : Int)] 32)
          replace hR := heap_past hR (.cells #[.int .u8 (lo : Int), .int .u8 (hh : Int)] 32)
          replace hO := heap_past hO (.cells #[.int .u8 (lo : Int), .int .u8 (hh : Int)] 32)
          replace hx := hx.alloc (.cells #[.int .u8 (lo : Int), .int .u8 (hh : Int)] 32)
          rw [hwy] at hG hR hO hx
          clear hwy hlo hhi
          apply region_phi (leaves := (Leaf.val _) :: (Leaf.val _) :: (Leaf.val _) :: (Leaf.val _) :: (Leaf.val _) :: (Leaf.val _) :: (Leaf.val _) :: (Leaf.val _) :: (Leaf.val _) :: (Leaf.val _) :: (Leaf.val _) :: (Leaf.val _) :: (Leaf.val _) :: (Leaf.val _) :: (Leaf.val _) :: (Leaf.val _) :: (Leaf.val _) :: (Leaf.val _) :: (Leaf.val _) :: (Leaf.val _) :: (Leaf.val _) :: (Leaf.val _) :: (Leaf.val _) :: ([] : List Leaf)) (k := 23) (b := #[0, 1, 0, 4, 15, 31, 63, 127, 255, 511, 1023, 2047, 511, 511, 8703, 29183, 61951, 127487, 258559, 520703, 1048575, 2097151, 4194303]) (ms := []) (E := Ext G0) mixed (by kernel_rfl) rfl (by kernel_rfl) rfl
          iterate 23
            apply owed_walk rfl
            · intro w1 hw hf
              have r0 := blk_cell (ext_heapD hw hB (fun x => x)) 0
              have r1 := blk_cell (ext_heapD hw hB (fun x => x)) 1
              go_wp2
              exact ⟨rfl, rfl, Ext.refl _ _⟩
            · simp
            · go_simp
              try rfl
          apply owed_end
          intro w1 hw _
          refine Tail.nil rfl ?_
          replace hR := ext_heapD hw hR (fun x => x)
          replace hG := ext_heapD hw hG (fun x => x)
          replace hO := ext_heapD hw hO (fun x => x)
          replace hB := ext_heapD hw hB (fun x => x)
          replace hx := hx.trans hw.ofDrew
          clear hw
          go_wp2
          apply region_phi (leaves := (Leaf.val _) :: (Leaf.val _) :: (Leaf.val _) :: (Leaf.val _) :: (Leaf.val _) :: (Leaf.val _) :: (Leaf.val _) :: (Leaf.val _) :: (Leaf.val _) :: (Leaf.val _) :: (Leaf.ref false false (fun v w => SetsAt w v [spanS lo hh])) :: (Leaf.val _) :: (Leaf.val _) :: (Leaf.val _) :: ([] : List Leaf)) (k := 14) (b := #[0, 0, 2, 6, 14, 0, 32, 0, 128, 480, 992, 2046, 4095, 8191, 16383]) (ms := []) (E := Ext G0) mixed (by kernel_rfl) rfl (by kernel_rfl) rfl
          iterate 9
            apply owed_walk rfl
            · intro w1 hw hf
              have r0 := blk_cell (ext_heapD hw hB (fun x => x)) 0
              have r1 := blk_cell (ext_heapD hw hB (fun x => x)) 1
              obtain ⟨g0, g1, g2, g3⟩ := cells4 (ext_heapD hw hG (fun x => x))
              go_wp2
              exact ⟨rfl, rfl, Ext.refl _ _⟩
            · simp
            · go_simp
              try rfl
          apply owed_walk rfl
          · intro w1 hw hf
            go_wp2_with (go_at_call 40; refine (span_any lo hh _ hb1 hb2).mono ?_; rintro e w2 ⟨rfl, hx2⟩)
            exact ⟨rfl, rfl, Ext.of_below hx2 _⟩
          · simp
          · go_simp
            try rfl
          apply owed_walk_ref rfl
          · exact fun v w w' h hx => SlAt.ext h hx
          · intro w1 hw hf
            go_wp2
            exact ⟨rfl, sets_new _ [spanS lo hh] _ _ rfl (by simp), (Ext.refl _ _).alloc _⟩
          · simp
          · intro v
            go_simp
            try rfl
          intro v10
          apply owed_walk rfl
          · intro w1 hw hf
            simp only [List.mem_singleton, forall_eq] at hf
            have hv := hf (by decide)
            go_wp2_with (go_at_call 21; refine (mor_any acc _ _ _ hv).mono ?_; rintro e w2 ⟨rfl, hx2⟩)
            exact ⟨rfl, rfl, Ext.of_below hx2 _⟩
          · simp
          · go_simp
            try rfl
          iterate 2
            apply owed_walk rfl
            · intro w1 hw hf
              go_wp2
              exact ⟨rfl, rfl, Ext.refl _ _⟩
            · simp
            · go_simp
              try rfl
          apply owed_end
          intro w2 hw _
          unfold Tail
          replace hG := ext_heapD hw hG (fun x => x)
          replace hR := ext_heapD hw hR (fun x => x)
          replace hO := ext_heapD hw hO (fun x => x)
          replace hx := hx.trans hw.ofDrew
          have z := blk_free hG
          obtain ⟨g0, g1, g2, g3⟩ := cells4 hG
          clear hw hB
          go_wp2
          go_roundw
          case rel =>
            refine ⟨0 + 1, acc ||| spanS lo hh, by omega, by go_num, hfu, blk_set4 (u := acc ||| spanS lo hh) hG, (heap_set4 (by omega)).trans hR, (heap_set4 (by omega)).trans hO, ?_⟩
            exact (((hx.set (by simp) _).set (by simp) _).set (by simp) _).set (by simp) _
          case measure => simp [intOf]; omega
      | succ k =>
        have hpb := hl l[k] (List.getElem_mem (by omega))
        have hpc : ∀ wq : World, wq.heap[w.heap.size + 1]? = some (.cells cs 32 (0, 0)) → wq.cell? ⟨w.heap.size + 1, k * 2 + 1, none⟩ = some (.int .u8 (l[k].2 : Int)) := fun wq hq => by
          rw [blk_cell hq]
          have := flat_get 2 runL l (fun _ _ => rfl) k l[k] (by simp [show k < l.length by omega]) 1 _ rfl
          exact hcs _ _ this
        have hlb : lbOf l (k + 1) = l[k].2 + 2 := by simp only [lbOf, List.getElem?_eq_getElem (show k < l.length by omega)]
        rw [hlb] at hfu
        generalize l[k].2 = hp at *
        have p3 : (0 : Int) ≤ (hp : Int) := by omega
        have p4 : (hp : Int) < 256 := by omega
        have HP := Lib.hid hpc
        clear hpc
        by_cases hc1 : hh < lo
        · rw [if_pos (.inl hc1)] at hfu
          have hc1' : (hh : Int) < (lo : Int) := by omega
          go_wp2
          generalize hwy : World.alloc wr _ = wy
          have hB : wy.heap[wr.heap.size]? = some (.cells #[.int .u8 (lo : Int), .int .u8 (hh : Int)] 32 (0, 0)) := by rw [← hwy]; exact heap_new _ _
          replace hG := heap_past hG (.cells #[.int .u8 (lo : Int), .int .u8 (hh : Int)] 32)
          replace hR := heap_past hR (.cells #[.int .u8 (lo : Int), .int .u8 (hh : Int)] 32)
          replace hO := heap_past hO (.cells #[.int .u8 (lo : Int), .int .u8 (hh : Int)] 32)
          replace hx := hx.alloc (.cells #[.int .u8 (lo : Int), .int .u8 (hh : Int)] 32)
          rw [hwy] at hG hR hO hx
          clear hwy hlo hhi
          apply region_phi (leaves := (Leaf.val _) :: (Leaf.val _) :: (Leaf.val _) :: (Leaf.val _) :: (Leaf.val _) :: (Leaf.val _) :: (Leaf.val _) :: (Leaf.val _) :: (Leaf.val _) :: (Leaf.val _) :: (Leaf.val _) :: (Leaf.val _) :: (Leaf.val _) :: (Leaf.val _) :: (Leaf.val _) :: (Leaf.val _) :: (Leaf.val _) :: (Leaf.val _) :: (Leaf.val _) :: (Leaf.val _) :: (Leaf.val _) :: (Leaf.val _) :: (Leaf.val _) :: ([] : List Leaf)) (k := 23) (b := #[0, 1, 0, 4, 15, 31, 63, 127, 255, 511, 1023, 2047, 511, 511, 8703, 29183, 61951, 127487, 258559, 520703, 1048575, 2097151, 4194303]) (ms := []) (E := Ext G0) mixed (by kernel_rfl) rfl (by kernel_rfl) rfl
          iterate 23
            apply owed_walk rfl
            · intro w1 hw hf
              have r0 := blk_cell (ext_heapD hw hB (fun x => x)) 0
              have r1 := blk_cell (ext_heapD hw hB (fun x => x)) 1
              have rp := HP.out _ (ext_heapD hw hO (fun x => x))
              go_wp2
              exact ⟨rfl, rfl, Ext.refl _ _⟩
            · simp
            · go_simp
              try rfl
          apply owed_end
          intro w1 hw _
          refine Tail.nil rfl ?_
          replace hR := ext_heapD hw hR (fun x => x)
          have hx1 := hx.trans hw.ofDrew
          obtain ⟨r0, r1, r2, r3⟩ := cells4 hR
          have z := blk_free hR
          clear hG hO hB
          go_wp2
          refine bodyPost_ret (v := fromV none) (by simp [results, Tryd.results12, go_sem, r0, r1, r2, r3]; rfl) rfl ⟨by rw [← hfu], ?_⟩
          exact ((((hx1.set (Nat.le_refl _) _).set (Nat.le_refl _) _).set (Nat.le_refl _) _).set (Nat.le_refl _) _).below
        · have hc1' : ¬ (hh : Int) < (lo : Int) := by omega
          by_cases hc2 : lo < hp + 2
          · rw [if_pos (.inr hc2)] at hfu
            have hc2' : (lo : Int) < (hp : Int) + 2 := by omega
            go_wp2
            generalize hwy : World.alloc wr _ = wy
            have hB : wy.heap[wr.heap.size]? = some (.cells #[.int .u8 (lo : Int), .int .u8 (hh : Int)] 32 (0, 0)) := by rw [← hwy]; exact heap_new _ _
            replace hG := heap_past hG (.cells #[.int .u8 (lo : Int), .int .u8 (hh : Int)] 32)
            replace hR := heap_past hR (.cells #[.int .u8 (lo : Int), .int .u8 (hh : Int)] 32)
            replace hO := heap_past hO (.cells #[.int .u8 (lo : Int), .int .u8 (hh : Int)] 32)
            replace hx := hx.alloc (.cells #[.int .u8 (lo : Int), .int .u8 (hh : Int)] 32)
            rw [hwy] at hG hR hO hx
            clear hwy hlo hhi
            apply region_phi (leaves := (Leaf.val _) :: (Leaf.val _) :: (Leaf.val _) :: (Leaf.val _) :: (Leaf.val _) :: (Leaf.val _) :: (Leaf.val _) :: (Leaf.val _) :: (Leaf.val _) :: (Leaf.val _) :: (Leaf.val _) :: (Leaf.val _) :: (Leaf.val _) :: (Leaf.val _) :: (Leaf.val _) :: (Leaf.val _) :: (Leaf.val _) :: (Leaf.val _) :: (Leaf.val _) :: (Leaf.val _) :: (Leaf.val _) :: (Leaf.val _) :: (Leaf.val _) :: ([] : List Leaf)) (k := 23) (b := #[0, 1, 0, 4, 15, 31, 63, 127, 255, 511, 1023, 2047, 511, 511, 8703, 29183, 61951, 127487, 258559, 520703, 1048575, 2097151, 4194303]) (ms := []) (E := Ext G0) mixed (by kernel_rfl) rfl (by kernel_rfl) rfl
            iterate 23
              apply owed_walk rfl
              · intro w1 hw hf
                have r0 := blk_cell (ext_heapD hw hB (fun x => x)) 0
                have r1 := blk_cell (ext_heapD hw hB (fun x => x)) 1
                have rp := HP.out _ (ext_heapD hw hO (fun x => x))
                go_wp2
                exact ⟨rfl, rfl, Ext.refl _ _⟩
              · simp
              · go_simp
                try rfl
            apply owed_end
            intro w1 hw _
            refine Tail.nil rfl ?_
            replace hR := ext_heapD hw hR (fun x => x)
            have hx1 := hx.trans hw.ofDrew
            obtain ⟨r0, r1, r2, r3⟩ := cells4 hR
            have z := blk_free hR
            clear hG hO hB
            go_wp2
            refine bodyPost_ret (v := fromV none) (by simp [results, Tryd.results12, go_sem, r0, r1, r2, r3]; rfl) rfl ⟨by rw [← hfu], ?_⟩
            exact ((((hx1.set (Nat.le_refl _) _).set (Nat.le_refl _) _).set (Nat.le_refl _) _).set (Nat.le_refl _) _).below
          · rw [if_neg (by omega)] at hfu
            have hc2' : ¬ (lo : Int) < (hp : Int) + 2 := by omega
            go_wp2
            generalize hwy : World.alloc wr _ = wy
            have hB : wy.heap[wr.heap.size]? = some (.cells #[.int .u8 (lo : Int), .int .u8 (hh : Int)] 32 (0, 0)) := by rw [← hwy]; exact heap_new _ _
            replace hG := heap_past hG (.cells #[.int .u8 (lo : Int), .int .u8 (hh : Int)] 32)
            replace hR := heap_past hR (.cells #[.int .u8 (lo : Int), .int .u8 (hh : Int)] 32)
            replace hO := heap_past hO (.cells #[.int .u8 (lo : Int), .int .u8 (hh : Int)] 32)
            replace hx := hx.alloc (.cells #[.int .u8 (lo : Int), .int .u8 (hh : Int)] 32)
            rw [hwy] at hG hR hO hx
            clear hwy hlo hhi
            apply region_phi (leaves := (Leaf.val _) :: (Leaf.val _) :: (Leaf.val _) :: (Leaf.val _) :: (Leaf.val _) :: (Leaf.val _) :: (Leaf.val _) :: (Leaf.val _) :: (Leaf.val _) :: (Leaf.val _) :: (Leaf.val _) :: (Leaf.val _) :: (Leaf.val _) :: (Leaf.val _) :: (Leaf.val _) :: (Leaf.val _) :: (Leaf.val _) :: (Leaf.val _) :: (Leaf.val _) :: (Leaf.val _) :: (Leaf.val _) :: (Leaf.val _) :: (Leaf.val _) :: ([] : List Leaf)) (k := 23) (b := #[0, 1, 0, 4, 15, 31, 63, 127, 255, 511, 1023, 2047, 511, 511, 8703, 29183, 61951, 127487, 258559, 520703, 1048575, 2097151, 4194303]) (ms := []) (E := Ext G0) mixed (by kernel_rfl) rfl (by kernel_rfl) rfl
            iterate 23
              apply owed_walk rfl
              · intro w1 hw hf
                have r0 := blk_cell (ext_heapD hw hB (fun x => x)) 0
                have r1 := blk_cell (ext_heapD hw hB (fun x => x)) 1
                have rp := HP.out _ (ext_heapD hw hO (fun x => x))
                go_wp2
                exact ⟨rfl, rfl, Ext.refl _ _⟩
              · simp
              · go_simp
                try rfl
            apply owed_end
            intro w1 hw _
            refine Tail.nil rfl ?_
            replace hR := ext_heapD hw hR (fun x => x)
            replace hG := ext_heapD hw hG (fun x => x)
            replace hO := ext_heapD hw hO (fun x => x)
            replace hB := ext_heapD hw hB (fun x => x)
            replace hx := hx.trans hw.ofDrew
            clear hw
            go_wp2
            apply region_phi (leaves := (Leaf.val _) :: (Leaf.val _) :: (Leaf.val _) :: (Leaf.val _) :: (Leaf.val _) :: (Leaf.val _) :: (Leaf.val _) :: (Leaf.val _) :: (Leaf.val _) :: (Leaf.val _) :: (Leaf.ref false false (fun v w => SetsAt w v [spanS lo hh])) :: (Leaf.val _) :: (Leaf.val _) :: (Leaf.val _) :: ([] : List Leaf)) (k := 14) (b := #[0, 0, 2, 6, 14, 0, 32, 0, 128, 480, 992, 2046, 4095, 8191, 16383]) (ms := []) (E := Ext G0) mixed (by kernel_rfl) rfl (by kernel_rfl) rfl
            iterate 9
              apply owed_walk rfl
              · intro w1 hw hf
                have r0 := blk_cell (ext_heapD hw hB (fun x => x)) 0
                have r1 := blk_cell (ext_heapD hw hB (fun x => x)) 1
                obtain ⟨g0, g1, g2, g3⟩ := cells4 (ext_heapD hw hG (fun x => x))
                go_wp2
                exact ⟨rfl, rfl, Ext.refl _ _⟩
              · simp
              · go_simp
                try rfl
            apply owed_walk rfl
            · intro w1 hw hf
              go_wp2_with (go_at_call 40; refine (span_any lo hh _ hb1 hb2).mono ?_; rintro e w2 ⟨rfl, hx2⟩)
              exact ⟨rfl, rfl, Ext.of_below hx2 _⟩
            · simp
            · go_simp
              try rfl
            apply owed_walk_ref rfl
            · exact fun v w w' h hx => SlAt.ext h hx
            · intro w1 hw hf
              go_wp2
              exact ⟨rfl, sets_new _ [spanS lo hh] _ _ rfl (by simp), (Ext.refl _ _).alloc _⟩
            · simp
            · intro v
              go_simp
              try rfl
            intro v10
            apply owed_walk rfl
            · intro w1 hw hf
              simp only [List.mem_singleton, forall_eq] at hf
              have hv := hf (by decide)
              go_wp2_with (go_at_call 21; refine (mor_any acc _ _ _ hv).mono ?_; rintro e w2 ⟨rfl, hx2⟩)
              exact ⟨rfl, rfl, Ext.of_below hx2 _⟩
            · simp
            · go_simp
              try rfl
            iterate 2
              apply owed_walk rfl
              · intro w1 hw hf
                go_wp2
                exact ⟨rfl, rfl, Ext.refl _ _⟩
              · simp
              · go_simp
                try rfl
            apply owed_end
            intro w2 hw _
            unfold Tail
            replace hG := ext_heapD hw hG (fun x => x)
            replace hR := ext_heapD hw hR (fun x => x)
            replace hO := ext_heapD hw hO (fun x => x)
            replace hx := hx.trans hw.ofDrew
            have z := blk_free hG
            obtain ⟨g0, g1, g2, g3⟩ := cells4 hG
            clear hw hB
            go_wp2
            go_roundw
            case rel =>
              refine ⟨(k + 1) + 1, acc ||| spanS lo hh, by omega, by go_num, hfu, blk_set4 (u := acc ||| spanS lo hh) hG, (heap_set4 (by omega)).trans hR, (heap_set4 (by omega)).trans hO, ?_⟩
              exact (((hx.set (by simp) _).set (by simp) _).set (by simp) _).set (by simp) _
            case measure => simp [intOf]; omega
    · obtain rfl : k = l.length := by omega
      rw [List.drop_length] at hfu
      obtain ⟨g0, g1, g2, g3⟩ := cells4 hG
      obtain ⟨r0, r1, r2, r3⟩ := cells4 hR
      have z := blk_free hR
      have hfu' : some acc = fromS l := hfu
      go_wp2
      refine bodyPost_ret (v := fromV (some acc)) (by simp [results, Tryd.results12, go_sem, r0, r1, r2, r3]; rfl) rfl ⟨by rw [← hfu'], ?_⟩
      exact ((((hx.set (Nat.le_refl _) _).set (Nat.le_refl _) _).set (Nat.le_refl _) _).set (Nat.le_refl _) _).below

end Go.Proofs.YtejialnbelleeaaDoor
