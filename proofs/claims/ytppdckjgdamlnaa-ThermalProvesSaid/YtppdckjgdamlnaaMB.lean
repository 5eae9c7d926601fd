/- Contracts: thermal.keyOf. -/
import Derived.Test.YtppdckjgdamlnaaMA
import Derived.Laws.CopyRow
import Derived.Laws.CopyOwn
import Derived.ChangeKeysEq
import Derived.WideKeyRuns
import Derived.RangeFuncRecord
import Derived.Laws.EntriesVeiled
import Derived.RangeFuncNested
import Derived.RangeFuncBound
import Derived.RangeFuncCalls
import Derived.RangeFuncLeaves
import Derived.Lib.QuietBelow
import Derived.OrdersIn
import Derived.OwnWalkIn
import Derived.TacticsInMore
import Derived.LoopNIn
import Derived.LoopIn
import Derived.Deep.CutRange
namespace Go.Proofs.Ytppdckjgdamlnaa
open Go.RowKit Go.Proofs.YtppdckjgdamlnaaW.PrintWords Go.Proofs.YtppdckjgdamlnaaW.PrintLast Go.Proofs.YtppdckjgdamlnaaW.PrintMore Q Go.Shelf

theorem run_copy_rowK {P : Program} (w : World) (dT sT ty elem : TypeId) (sz n : Nat) (g o dLen dCap : Nat) (a : Addr) (sLen sCap : Nat) (cur : Array Value) (t : TypeId) (cs : List Value)
    (hu : P.underlying dT = some (.slice elem)) (hs : (P.info? elem).map (·.size) = some sz)
    (hg : w.heap[g]? = some (.cells cur t (0, 0))) (hn : Nat.min sLen dLen = n) (hcs : cs.length = n * sz)
    (hsrc : ∀ j v, cs[j]? = some v → w.cell? (a.add j) = some v) (hfit : o + cs.length ≤ cur.size) (h1 : ∀ v ∈ cs, v.oneCell' = true) :
    (Builtin.copy_ #[dT, sT] ty #[.slice (some ⟨g, o, none⟩) dLen dCap, .slice (some a) sLen sCap]).run P w =
      .ok (goInt n) (w.setRow g (cur.toList.take o ++ cs ++ cur.toList.drop (o + cs.length)).toArray) := by
  have hl := run_loadCells_list (P := P) w a cs hsrc
  rw [hcs] at hl
  have hst := run_storeCells_at P g o t cs 0 cur w hg (by simpa using hfit) h1
  cases hq : P.info? elem with
  | none => simp [hq] at hs
  | some i =>
    have hi : i.size = sz := by simpa [hq] using hs
    simp [Builtin.copy_, run_underlying hu, Builtin.lenOf, Builtin.firstCells, sizeOf, typeInfo, hq, hi, hn, hl, hst]

/-- a key's numbers: the slot, the box's ends, zeros -/
def flat (b : List S48) : List Int := b.flatMap fun x => [x.f0, x.f1]
def keyInts (slot : Int) (b : List S48) : List Int := slot :: (flat b ++ List.replicate (6 - 2 * b.length) 0)
def keyV (slot : Int) (b : List S48) : Value := .agg ((keyInts slot b).map (Value.int .i64)).toArray

theorem flat_len (b : List S48) : (flat b).length = 2 * b.length := by
  induction b with
  | nil => rfl
  | cons x b ih => simp only [flat, List.flatMap_cons, List.length_append, List.length_cons, List.length_nil] at ih ⊢; omega
theorem flat_spans (b : List S48) : (flat b).map (Value.int .i64) = spans b := by
  induction b with
  | nil => rfl
  | cons x b ih => simp only [flat, spans, List.flatMap_cons, List.map_append] at ih ⊢; rw [ih]; rfl
theorem keyInts_len (slot : Int) (b : List S48) (h : b.length ≤ 3) : (keyInts slot b).length = 7 := by
  simp [keyInts, flat_len]; omega
theorem seven {l : List Int} (h : l.length = 7) : ∃ a b c d e f g, l = [a, b, c, d, e, f, g] := by
  match l, h with
  | [a, b, c, d, e, f, g], _ => exact ⟨a, b, c, d, e, f, g, rfl⟩
theorem spans_oc (b : List S48) : ∀ v ∈ spans b, v.oneCell' = true := by
  intro v hv
  rw [← flat_spans] at hv
  obtain ⟨x, _, rfl⟩ := List.mem_map.1 hv
  rfl
theorem C48_cells {w : World} {ad : Addr} {b : List S48} (h : Kd.C k48 w (some ad) b.length b) : ∀ j v, (spans b)[j]? = some v → w.cell? (ad.add j) = some v := by
  intro j v hv
  have hlt : j < 2 * b.length := by
    have := (List.getElem?_eq_some_iff.1 hv).1
    rw [← flat_spans, List.length_map, flat_len] at this; exact this
  obtain ⟨ad', x, e, E0, h0, h1⟩ := at48 h (j / 2) (by omega)
  cases e
  obtain ⟨s0, s1⟩ := spans_at b _ _ E0.out
  rcases (by omega : j = j / 2 * 2 ∨ j = j / 2 * 2 + 1) with hj | hj
  · rw [← hj] at s0 h0
    rw [hv] at s0; cases s0; exact h0
  · rw [← hj] at s1
    rw [hv] at s1; cases s1
    rw [hj, add_field _ _ 1 (by omega)]
    exact h1

set_option maxRecDepth 10000 in
set_option maxHeartbeats 1000000 in
theorem keyOf_calls (slot : Int) (B : Option Addr) (cb : Nat) (b : List S48) (w : World) (hr : Kd.C k48 w B b.length b) (hl : b.length ≤ 3) (hl1 : 1 ≤ b.length) :
    Calls Try.prog 33 #[.int .i64 slot, .slice B b.length cb] w fun e w' => e = .returned (keyV slot b) ∧ Below w.heap.size w w' := by
  obtain ⟨ad, x, rfl, _, _⟩ := at48 hr 0 (by omega)
  obtain ⟨a0, a1, a2, a3, a4, a5, a6, hk⟩ := seven (keyInts_len slot b hl)
  have hcp : ∀ W, W.heap[w.heap.size + 1]? = some (.cells #[.int .i64 slot, .int .i64 0, .int .i64 0, .int .i64 0, .int .i64 0, .int .i64 0, .int .i64 0] 69 (0, 0)) → Below w.heap.size w W →
      (Builtin.copy_ #[22, 22] 3 #[.slice (some ⟨w.heap.size + 1, 1, none⟩) 3 3, .slice (some ad) b.length cb]).run Try.prog W = .ok (goInt b.length) (W.setRow (w.heap.size + 1) #[.int .i64 a0, .int .i64 a1, .int .i64 a2, .int .i64 a3, .int .i64 a4, .int .i64 a5, .int .i64 a6]) := by
    intro W hW hB
    have h := run_copy_rowK (P := Try.prog) W 22 22 3 48 2 b.length (w.heap.size + 1) 1 3 3 ad b.length cb _ 69 (spans b) Try.underlying22 (by kernel_rfl) hW (Nat.min_eq_left hl) (by rw [← flat_spans, List.length_map, flat_len, Nat.mul_comm]) (C48_cells (Kd.C_below hr hB)) (by rw [← flat_spans, List.length_map, flat_len]; simp; omega) (spans_oc b)
    rw [Nat.add_comm 1 (spans b).length] at h
    rw [h]
    have e : ([Value.int .i64 slot] ++ spans b ++ (List.replicate 6 (Value.int .i64 0)).drop (spans b).length) = (keyInts slot b).map (Value.int .i64) := by
      rw [← flat_spans]
      simp only [keyInts, List.map_cons, List.map_append, List.map_replicate, List.drop_replicate, List.length_map, flat_len]
      rfl
    rw [hk] at e
    congr 2
    rw [show ([Value.int .i64 a0, .int .i64 a1, .int .i64 a2, .int .i64 a3, .int .i64 a4, .int .i64 a5, .int .i64 a6] : List Value) = [a0, a1, a2, a3, a4, a5, a6].map (Value.int .i64) from rfl, ← e]
    rfl
  have HCP := Aside0.mk hcp
  have HK := Aside0.mk hk
  clear hcp hr hk
  go_enter Try.func33, Try.ntmps33
  go_wp2_with fail
  obtain ⟨W, hW⟩ : ∃ W, W = (w.alloc (.cells #[.int .i64 0, .int .i64 0, .int .i64 0, .int .i64 0, .int .i64 0, .int .i64 0, .int .i64 0] 69)).alloc (.cells #[.int .i64 slot, .int .i64 0, .int .i64 0, .int .i64 0, .int .i64 0, .int .i64 0, .int .i64 0] 69) := ⟨_, rfl⟩
  have hB : Below w.heap.size w W := by rw [hW]; exact below_alloc (below_alloc (Below.refl _ _) _) _
  have k0 : W.heap[w.heap.size]? = some (.cells #[.int .i64 0, .int .i64 0, .int .i64 0, .int .i64 0, .int .i64 0, .int .i64 0, .int .i64 0] 69 (0, 0)) := by rw [hW]; exact (two_new _ _ _).1
  have k1 := by have := (two_new w (.cells #[.int .i64 0, .int .i64 0, .int .i64 0, .int .i64 0, .int .i64 0, .int .i64 0, .int .i64 0] 69) (.cells #[.int .i64 slot, .int .i64 0, .int .i64 0, .int .i64 0, .int .i64 0, .int .i64 0, .int .i64 0] 69)).2; rw [← hW] at this; exact this
  rw [← hW, HCP.out W k1 hB]
  clear hW HCP
  obtain ⟨W2, hW2⟩ : ∃ W2, W2 = W.setRow (w.heap.size + 1) #[.int .i64 a0, .int .i64 a1, .int .i64 a2, .int .i64 a3, .int .i64 a4, .int .i64 a5, .int .i64 a6] := ⟨_, rfl⟩
  have HB := Aside0.mk (show Below w.heap.size w W2 by rw [hW2]; exact below_setRow hB (by omega) _)
  have q1 : W2.heap[w.heap.size + 1]? = some (.cells #[.int .i64 a0, .int .i64 a1, .int .i64 a2, .int .i64 a3, .int .i64 a4, .int .i64 a5, .int .i64 a6] 69 (0, 0)) := by rw [hW2]; exact setRow_heap W _ _ _ _ _ k1
  have q0 : W2.heap[w.heap.size]? = some (.cells #[.int .i64 0, .int .i64 0, .int .i64 0, .int .i64 0, .int .i64 0, .int .i64 0, .int .i64 0] 69 (0, 0)) := by
    rw [hW2]; exact (below_setRow (Below.refl (w.heap.size + 1) W) (Nat.le_refl _) _).block _ (by omega) |>.trans k0
  rw [← hW2]
  have c0 := blk_cell q1 0
  have c1 := blk_cell q1 1
  have c2 := blk_cell q1 2
  have c3 := blk_cell q1 3
  have c4 := blk_cell q1 4
  have c5 := blk_cell q1 5
  have c6 := blk_cell q1 6
  have d0 := blk_cell q0 0
  have d1 := blk_cell q0 1
  have d2 := blk_cell q0 2
  have d3 := blk_cell q0 3
  have d4 := blk_cell q0 4
  have d5 := blk_cell q0 5
  have d6 := blk_cell q0 6
  have z : ∀ i, W2.frozen? ⟨w.heap.size, i, none⟩ = false := fun i => blk_frozen q0 i
  simp at c0 c1 c2 c3 c4 c5 c6 d0 d1 d2 d3 d4 d5 d6
  have Q0 := Aside0.mk q0
  clear hW2 hB k0 k1 q0 q1
  go_wp2_with fail
  obtain ⟨W3, hW3⟩ : ∃ W3, W3 = ((((((W2.setCell ⟨w.heap.size, 0, none⟩ (.int .i64 a0)).setCell ⟨w.heap.size, 1, none⟩ (.int .i64 a1)).setCell ⟨w.heap.size, 2, none⟩ (.int .i64 a2)).setCell ⟨w.heap.size, 3, none⟩ (.int .i64 a3)).setCell ⟨w.heap.size, 4, none⟩ (.int .i64 a4)).setCell ⟨w.heap.size, 5, none⟩ (.int .i64 a5)).setCell ⟨w.heap.size, 6, none⟩ (.int .i64 a6) := ⟨_, rfl⟩
  have r0 : W3.heap[w.heap.size]? = some (.cells #[.int .i64 a0, .int .i64 a1, .int .i64 a2, .int .i64 a3, .int .i64 a4, .int .i64 a5, .int .i64 a6] 69 (0, 0)) := by
    rw [hW3]
    exact blk_set (blk_set (blk_set (blk_set (blk_set (blk_set (blk_set Q0.out 0 _) 1 _) 2 _) 3 _) 4 _) 5 _) 6 _
  have HB3 : Below w.heap.size w W3 := by
    rw [hW3]
    exact (below_set (j := 6) (below_set (j := 5) (below_set (j := 4) (below_set (j := 3) (below_set (j := 2) (below_set (j := 1) (below_set (j := 0) HB.out (Nat.le_refl _)) (Nat.le_refl _)) (Nat.le_refl _)) (Nat.le_refl _)) (Nat.le_refl _)) (Nat.le_refl _)) (Nat.le_refl _))
  rw [← hW3]
  clear hW3 c0 c1 c2 c3 c4 c5 c6 d0 d1 d2 d3 d4 d5 d6
  have c0 := blk_cell r0 0
  have c1 := blk_cell r0 1
  have c2 := blk_cell r0 2
  have c3 := blk_cell r0 3
  have c4 := blk_cell r0 4
  have c5 := blk_cell r0 5
  have c6 := blk_cell r0 6
  simp at c0 c1 c2 c3 c4 c5 c6
  refine bodyPost_ret (v := .agg #[.int .i64 a0, .int .i64 a1, .int .i64 a2, .int .i64 a3, .int .i64 a4, .int .i64 a5, .int .i64 a6]) (by simp [results, Try.results33, go_sem, c0, c1, c2, c3, c4, c5, c6]) rfl ⟨?_, HB3⟩
  rw [keyV, HK.out]; rfl
end Go.Proofs.Ytppdckjgdamlnaa

namespace Go.Proofs.Ytppdckjgdamlnaa
open Go.RowKit Go.Proofs.YtppdckjgdamlnaaW.PrintWords Go.Proofs.YtppdckjgdamlnaaW.PrintLast Go.Proofs.YtppdckjgdamlnaaW.PrintMore Q Go.Shelf

theorem eqA67 (d : Nat) (w : World) (a1 a2 a3 a4 a5 a6 b1 b2 b3 b4 b5 b6 : Int) :
    (Op.equalIn (d + 3) 67 (.agg #[.int .i64 a1, .int .i64 a2, .int .i64 a3, .int .i64 a4, .int .i64 a5, .int .i64 a6]) (.agg #[.int .i64 b1, .int .i64 b2, .int .i64 b3, .int .i64 b4, .int .i64 b5, .int .i64 b6])).run Try.prog w =
      .ok ((a1 == b1 && a2 == b2) && ((a3 == b3 && a4 == b4) && (a5 == b5 && a6 == b6))) w := by
  obtain ⟨i0, hi0, _, _, _⟩ := info_parts info48
  rw [run_equalIn_array (P := Try.prog) w (d + 2) _ _ Try.underlying67 hi0]
  have hc : Try.prog.cellsOf 48 = 2 := by kernel_rfl
  have e1 := eqA48 d w a1 b1 a2 b2
  have e2 := eqA48 d w a3 b3 a4 b4
  have e3 := eqA48 d w a5 b5 a6 b6
  have p1 : ∀ c1 c2 c3 c4 c5 c6 : Int, (part 48 #[.int .i64 c1, .int .i64 c2, .int .i64 c3, .int .i64 c4, .int .i64 c5, .int .i64 c6] (0 * 2)).run Try.prog w = .ok (.agg #[.int .i64 c1, .int .i64 c2]) w := fun _ _ _ _ _ _ => by go_simp
  have p2 : ∀ c1 c2 c3 c4 c5 c6 : Int, (part 48 #[.int .i64 c1, .int .i64 c2, .int .i64 c3, .int .i64 c4, .int .i64 c5, .int .i64 c6] (1 * 2)).run Try.prog w = .ok (.agg #[.int .i64 c3, .int .i64 c4]) w := fun _ _ _ _ _ _ => by go_simp
  have p3 : ∀ c1 c2 c3 c4 c5 c6 : Int, (part 48 #[.int .i64 c1, .int .i64 c2, .int .i64 c3, .int .i64 c4, .int .i64 c5, .int .i64 c6] (2 * 2)).run Try.prog w = .ok (.agg #[.int .i64 c5, .int .i64 c6]) w := fun _ _ _ _ _ _ => by go_simp
  rw [hc, show List.range 3 = [0, 1, 2] from rfl]
  simp only [Op.eqItems, Sem.run_bind, p1, Result.andThen_ok, e1]
  cases h1 : (a1 == b1 && a2 == b2) with
  | false => simp
  | true =>
    simp only [Bool.not_true, Bool.false_eq_true, if_false, Bool.true_and, Sem.run_bind, p2, Result.andThen_ok, e2]
    cases h2 : (a3 == b3 && a4 == b4) with
    | false => simp
    | true =>
      simp only [Bool.not_true, Bool.false_eq_true, if_false, Bool.true_and, Sem.run_bind, p3, Result.andThen_ok, e3]
      cases h3 : (a5 == b5 && a6 == b6) <;> simp

theorem eqA69 (d : Nat) (w : World) (a0 a1 a2 a3 a4 a5 a6 b0 b1 b2 b3 b4 b5 b6 : Int) :
    (Op.equalIn (d + 4) 69 (.agg #[.int .i64 a0, .int .i64 a1, .int .i64 a2, .int .i64 a3, .int .i64 a4, .int .i64 a5, .int .i64 a6]) (.agg #[.int .i64 b0, .int .i64 b1, .int .i64 b2, .int .i64 b3, .int .i64 b4, .int .i64 b5, .int .i64 b6])).run Try.prog w =
      .ok (a0 == b0 && ((a1 == b1 && a2 == b2) && ((a3 == b3 && a4 == b4) && (a5 == b5 && a6 == b6)))) w := by
  refine eqA_of Try.underlying69 (by kernel_rfl) ?_
  refine eqf_cons (a := .int .i64 a0) (b := .int .i64 b0) (by rfl) (by go_simp) (by go_simp) (by go_simp) ?_
  exact eqf_last (by rfl) (by go_simp) (by go_simp) (eqA67 d w _ _ _ _ _ _ _ _ _ _ _ _)

theorem eqA69' (D : Nat) (hD : 4 ≤ D) (w : World) (a0 a1 a2 a3 a4 a5 a6 b0 b1 b2 b3 b4 b5 b6 : Int) :
    (Op.equalIn D 69 (.agg #[.int .i64 a0, .int .i64 a1, .int .i64 a2, .int .i64 a3, .int .i64 a4, .int .i64 a5, .int .i64 a6]) (.agg #[.int .i64 b0, .int .i64 b1, .int .i64 b2, .int .i64 b3, .int .i64 b4, .int .i64 b5, .int .i64 b6])).run Try.prog w =
      .ok (a0 == b0 && ((a1 == b1 && a2 == b2) && ((a3 == b3 && a4 == b4) && (a5 == b5 && a6 == b6)))) w := by
  obtain ⟨d, rfl⟩ : ∃ d, D = d + 4 := ⟨D - 4, by omega⟩
  exact eqA69 d w _ _ _ _ _ _ _ _ _ _ _ _ _ _

theorem run_eqKey (w : World) (s t : Int) (a b : List S48) (ha : a.length ≤ 3) (hb : b.length ≤ 3) : (Op.equal 69 (keyV s a) (keyV t b)).run Try.prog w = .ok (decide (keyInts s a = keyInts t b)) w := by
  obtain ⟨a0, a1, a2, a3, a4, a5, a6, h1⟩ := seven (keyInts_len s a ha)
  obtain ⟨b0, b1, b2, b3, b4, b5, b6, h2⟩ := seven (keyInts_len t b hb)
  rw [keyV, keyV, h1, h2]
  have h := eqA69' Op.maxDepth (by decide) w a0 a1 a2 a3 a4 a5 a6 b0 b1 b2 b3 b4 b5 b6
  simp only [List.map_cons, List.map_nil, Op.equal]
  have e : (a0 == b0 && ((a1 == b1 && a2 == b2) && ((a3 == b3 && a4 == b4) && (a5 == b5 && a6 == b6)))) = decide ([a0, a1, a2, a3, a4, a5, a6] = [b0, b1, b2, b3, b4, b5, b6]) := by
    rw [Bool.eq_iff_iff]
    simp [and_assoc]
  rw [h, e]

/-- the first place of a key in a list of keys -/
def keyAt (ks : List (Int × List S48)) (k : Int × List S48) : Option Nat := ks.findIdx? fun q => decide (keyInts k.1 k.2 = keyInts q.1 q.2)

theorem keyAt_cons (q : Int × List S48) (ks : List (Int × List S48)) (k : Int × List S48) : keyAt (q :: ks) k = if decide (keyInts k.1 k.2 = keyInts q.1 q.2) = true then some 0 else (keyAt ks k).map (· + 1) := by
  simp only [keyAt, List.findIdx?_cons]

/-- the map of a graph: the keys in the order in which they came, each with its place -/
def MapIs (w : World) (g : Nat) (ks : List (Int × List S48)) : Prop :=
  ∃ es : Array MapEntry, w.heap[g]? = some (.map es es.size) ∧ es.size = ks.length ∧ ∀ (i : Nat) (e : MapEntry), es[i]? = some e → ∃ k, ks[i]? = some k ∧ e.key = keyV k.1 k.2 ∧ e.val = .int .i64 i

theorem find_run (w : World) (k : Int × List S48) (hk : k.2.length ≤ 3) : ∀ (ks : List (Int × List S48)) (es : List MapEntry) (i0 : Nat), (∀ q ∈ ks, q.2.length ≤ 3) → es.length = ks.length →
    (∀ (i : Nat) (e : MapEntry), es[i]? = some e → ∃ q, ks[i]? = some q ∧ e.key = keyV q.1 q.2 ∧ e.val = .int .i64 ((i0 + i : Nat) : Int)) →
    (Instr.findAsking 69 (keyV k.1 k.2) es i0).run Try.prog w = .ok ((keyAt ks k).map fun i => (i0 + i, Value.int .i64 ((i0 + i : Nat) : Int))) w := by
  intro ks
  induction ks with
  | nil =>
    intro es i0 _ hl _
    have : es = [] := List.eq_nil_of_length_eq_zero hl
    subst this
    rfl
  | cons q ks ih =>
    intro es i0 h3 hl h
    match es, hl with
    | e :: es, hl =>
      obtain ⟨q', hq, he1, he2⟩ := h 0 e rfl
      cases hq
      have hrun := run_eqKey w k.1 q.1 k.2 q.2 hk (h3 q (by simp))
      simp only [Instr.findAsking, Sem.run_bind, he1, hrun, Result.andThen_ok]
      have hz := ih es (i0 + 1) (fun x hx => h3 x (by simp [hx])) (by simpa using hl) (fun i e' hi => by
        obtain ⟨q', hq', a, b⟩ := h (i + 1) e' (by simpa using hi)
        exact ⟨q', by simpa using hq', a, by rw [b, show i0 + (i + 1) = i0 + 1 + i by omega]⟩)
      rw [keyAt_cons]
      cases hd : decide (keyInts k.1 k.2 = keyInts q.1 q.2) with
      | true =>
        rw [if_pos rfl, if_pos rfl]
        show Result.ok (some (i0, e.val)) w = _
        rw [he2]; rfl
      | false =>
        rw [if_neg (by decide), if_neg (by decide), hz, Option.map_map]
        have : ((fun i => (i0 + i, Value.int .i64 ((i0 + i : Nat) : Int))) ∘ fun x => x + 1) = fun i => (i0 + 1 + i, Value.int .i64 ((i0 + 1 + i : Nat) : Int)) := by
          funext i
          simp only [Function.comp]
          rw [show i0 + (i + 1) = i0 + 1 + i by omega]
        rw [this]

theorem checkKey7 (w : World) (em : Bool) (a0 a1 a2 a3 a4 a5 a6 : Int) : (Instr.checkKey em 10000 69 (.agg #[.int .i64 a0, .int .i64 a1, .int .i64 a2, .int .i64 a3, .int .i64 a4, .int .i64 a5, .int .i64 a6])).run Try.prog w = .ok () w := by kernel_rfl
theorem checkKey_run (w : World) (em : Bool) (s : Int) (b : List S48) (hb : b.length ≤ 3) : (Instr.checkKey em 10000 69 (keyV s b)).run Try.prog w = .ok () w := by
  obtain ⟨a0, a1, a2, a3, a4, a5, a6, h1⟩ := seven (keyInts_len s b hb)
  rw [keyV, h1]
  exact checkKey7 w em a0 a1 a2 a3 a4 a5 a6

theorem lookup_run (w : World) (g : Nat) (ks : List (Int × List S48)) (k : Int × List S48) (hk : k.2.length ≤ 3) (h3 : ∀ q ∈ ks, q.2.length ≤ 3) (h : MapIs w g ks) :
    (Instr.lookup 62 (.map (some g)) (keyV k.1 k.2) true).run Try.prog w = .ok (.tuple #[.int .i64 (((keyAt ks k).getD 0 : Nat) : Int), .bool (keyAt ks k).isSome]) w := by
  obtain ⟨es, hg, hs, he⟩ := h
  have hf := find_run w k hk ks es.toList 0 h3 (by simpa using hs) (fun i e hi => by simpa using he i e (by simpa using hi))
  have hck := checkKey_run w es.isEmpty k.1 k.2 hk
  have hfk := run_findKey_eq (P := Try.prog) w (k := 69) (by kernel_rfl) (keyV k.1 k.2) es.toList
  rw [hf] at hfk
  have hgo := run_getObj_map (P := Try.prog) (w := w) g es es.size hg
  unfold Instr.lookup
  simp only [Sem.run_bind, run_underlying Try.underlying62, Result.andThen_ok, hgo, Sem.run_pure, hck, hfk]
  cases keyAt ks k with
  | none => simp
  | some j => simp

/-- storing a new key's place: the keys with it behind -/
theorem update_run (w : World) (g : Nat) (ks : List (Int × List S48)) (k : Int × List S48) (hk : k.2.length ≤ 3) (h3 : ∀ q ∈ ks, q.2.length ≤ 3) (h : MapIs w g ks) (hn : keyAt ks k = none) :
    ∃ o, (Instr.mapUpdate 62 (.map (some g)) (keyV k.1 k.2) (.int .i64 (ks.length : Int))).run Try.prog w = .ok () (w.putObj g o) ∧ MapIs (w.putObj g o) g (ks ++ [k]) := by
  obtain ⟨es, hg, hs, he⟩ := h
  have hf := find_run w k hk ks es.toList 0 h3 (by simpa using hs) (fun i e hi => by simpa using he i e (by simpa using hi))
  have hck := checkKey_run w false k.1 k.2 hk
  have hfk := run_findKey_eq (P := Try.prog) w (k := 69) (by kernel_rfl) (keyV k.1 k.2) es.toList
  rw [hf, hn] at hfk
  have hgo := run_getObj_map (P := Try.prog) (w := w) g es es.size hg
  refine ⟨Obj.map (es.push ⟨keyV k.1 k.2, .int .i64 (ks.length : Int), es.size⟩) (es.size + 1), ?_, ?_⟩
  · unfold Instr.mapUpdate
    simp only [Sem.run_bind, run_underlying Try.underlying62, Result.andThen_ok, hgo, hck, hfk, Option.map_none]
    exact MapKept.run_setObj_map _ hg
  · have hlt := blk_lt hg
    refine ⟨es.push ⟨keyV k.1 k.2, .int .i64 (ks.length : Int), es.size⟩, by rw [World.putObj_heap_same hlt]; simp, by simp [hs], fun i e hi => ?_⟩
    rw [Array.getElem?_push] at hi
    split at hi
    · rename_i hie
      cases hi
      exact ⟨k, by rw [hie, hs]; simp, rfl, by rw [hie, hs]⟩
    · obtain ⟨q, hq, a, b⟩ := he i e hi
      exact ⟨q, by rw [List.getElem?_append_left (List.getElem?_eq_some_iff.1 hq).1]; exact hq, a, b⟩

end Go.Proofs.Ytppdckjgdamlnaa

namespace Go.Proofs.Ytppdckjgdamlnaa
open Go.RowKit Go.Proofs.YtppdckjgdamlnaaW.PrintWords Go.Proofs.YtppdckjgdamlnaaW.PrintLast Go.Proofs.YtppdckjgdamlnaaW.PrintMore Q Go.Shelf

/-- A graph in memory: its block, its map, its row of nodes. -/
structure GraphAt (W : World) (G M base : Nat) (s0 s1 s2 s3 v : Value) (cells : List Value) (ks : List (Int × List S48)) : Prop where
  blk : W.heap[G]? = some (.cells #[s0, s1, s2, s3, v, .map (some M)] 64 (0, 0))
  map : MapIs W M ks
  row : W.ownsRow base 31 3 v ks.length cells
  gb : base ≤ G
  mb : base ≤ M
  ne : G ≠ M

theorem MapIs.keep {W W1 : World} {M : Nat} {ks : List (Int × List S48)} (h : MapIs W M ks) (he : W1.heap[M]? = W.heap[M]?) : MapIs W1 M ks := by
  obtain ⟨es, a, b, c⟩ := h
  exact ⟨es, he.trans a, b, c⟩
theorem MapIs.lt {W : World} {M : Nat} {ks : List (Int × List S48)} (h : MapIs W M ks) : M < W.heap.size := by
  obtain ⟨es, a, _⟩ := h; exact blk_lt a
theorem MapIs.below {W W1 : World} {M : Nat} {ks : List (Int × List S48)} (h : MapIs W M ks) (hb : Below W.heap.size W W1) : MapIs W1 M ks := h.keep (hb.block _ h.lt)
theorem row_ne_map {W : World} {M base e size n : Nat} {v : Value} {cells : List Value} {ks : List (Int × List S48)} (h : MapIs W M ks) (hr : W.ownsRow base e size v n cells) : v.ownBlock ≠ some M := fun hk => by
  obtain ⟨es, a, _⟩ := h
  obtain ⟨c, hc⟩ := own_typed hr M hk
  rw [a] at hc; cases hc
theorem GraphAt.below {W W1 : World} {G M base : Nat} {s0 s1 s2 s3 v : Value} {cells : List Value} {ks : List (Int × List S48)} (h : GraphAt W G M base s0 s1 s2 s3 v cells ks) (hb : Below W.heap.size W W1) : GraphAt W1 G M base s0 s1 s2 s3 v cells ks :=
  ⟨pw_blk_below hb h.blk, h.map.below hb, pw_own_below h.row hb, h.gb, h.mb, h.ne⟩
/-- what an add may turn -/
def AddMay (G M : Nat) (v : Value) (k : Nat) : Prop := k = G ∨ k = M ∨ v.ownBlock = some k

set_option maxRecDepth 100000 in
set_option maxHeartbeats 4000000 in
theorem add_old (G M base : Nat) (s0 s1 s2 s3 v : Value) (cells : List Value) (ks : List (Int × List S48)) (slot val : Int) (B : Option Addr) (cb : Nat) (b : List S48) (w : World)
    (hg : GraphAt w G M base s0 s1 s2 s3 v cells ks) (hr : Kd.C k48 w B b.length b) (h3 : ∀ q ∈ ks, q.2.length ≤ 3) (hb1 : 1 ≤ b.length) (hb3 : b.length ≤ 3) (i : Nat) (hk : keyAt ks (slot, b) = some i) :
    Calls Try.prog 32 #[.pointer (some ⟨G, 0, none⟩), .agg #[.int .i64 slot, .slice B b.length cb, .int .i64 val]] w fun e w' => e = .returned (.tuple #[]) ∧ Below w.heap.size w w' := by
  have HG := Aside0.mk hg
  have HK := Aside0.mk hk
  have hlk := fun W (hW : MapIs W M ks) => lookup_run W M ks (slot, b) hb3 h3 hW
  rw [hk] at hlk
  have HLK := Aside0.mk hlk
  have HKEY := fun o => Aside0.mk (keyOf_calls slot B cb b (w.alloc o) (Kd.C_alloc hr o) hb3 hb1)
  obtain ⟨a0, a1, a2, a3, a4, a5, a6, h7⟩ := seven (keyInts_len slot b hb3)
  have H7 := Aside0.mk h7
  clear hg hk hlk hr h3 h7
  go_enter Try.func32, Try.ntmps32
  go_wp2_with fail
  refine (HKEY _).out.mono ?_
  rw [keyV, H7.out]
  rintro e w1 ⟨rfl, hb⟩
  have HB := Aside0.mk (below_step (below_alloc (Below.refl _ _) _) hb)
  clear hb HKEY
  simp only [List.map_cons, List.map_nil]
  go_wp2_with fail
  obtain ⟨W, hW⟩ : ∃ W, W = w1.alloc (.cells #[.int .i64 a0, .int .i64 a1, .int .i64 a2, .int .i64 a3, .int .i64 a4, .int .i64 a5, .int .i64 a6] 69) := ⟨_, rfl⟩
  have HBW := Aside0.mk (show Below w.heap.size w W by rw [hW]; exact below_alloc HB.out _)
  have q0 : W.heap[w1.heap.size]? = some (.cells #[.int .i64 a0, .int .i64 a1, .int .i64 a2, .int .i64 a3, .int .i64 a4, .int .i64 a5, .int .i64 a6] 69 (0, 0)) := by rw [hW]; exact heap_alloc_new _ _
  rw [← hW]
  clear hW HB
  have c0 := blk_cell q0 0
  have c1 := blk_cell q0 1
  have c2 := blk_cell q0 2
  have c3 := blk_cell q0 3
  have c4 := blk_cell q0 4
  have c5 := blk_cell q0 5
  have c6 := blk_cell q0 6
  simp at c0 c1 c2 c3 c4 c5 c6
  have g5 := blk_cell (pw_blk_below HBW.out HG.out.blk) 5
  simp at g5
  have hl : ∀ n, (Instr.lookup 62 (.map (some M)) (.agg #[.int .i64 a0, .int .i64 a1, .int .i64 a2, .int .i64 a3, .int .i64 a4, .int .i64 a5, .int .i64 a6]) true).run Try.prog (W.drewN n) = .ok (.tuple #[.int .i64 i, .bool true]) (W.drewN n) := fun n => by
    have := HLK.out (W.drewN n) (HG.out.map.below (pw_below_drewN HBW.out n))
    rw [keyV, H7.out] at this
    exact this
  clear q0 HLK
  generalize w1.heap.size = X at *
  go_quiet (fail)
  obtain ⟨W2, hW2⟩ : ∃ W2, W2 = W.drewN nq := ⟨_, rfl⟩
  have HB2 := Aside0.mk (show Below w.heap.size w W2 by rw [hW2]; exact pw_below_drewN HBW.out nq)
  rw [← hW2]
  clear hW2 hl c0 c1 c2 c3 c4 c5 c6 g5
  go_wp2_with fail
  go_end0
  exact ⟨rfl, HB2.out⟩
/-- the end of an add: the new row is stored in the graph -/
theorem add_end {w W3 wa : World} {G M base : Nat} {s0 s1 s2 s3 v : Value} {cells news : List Value} {ks : List (Int × List S48)} {kb : Int × List S48} {o : Obj} {ga ca : Nat}
    (g3 : W3.heap[G]? = some (.cells #[s0, s1, s2, s3, v, .map (some M)] 64 (0, 0))) (hm : MapIs W3 M (ks ++ [kb])) (hk : Kept w W3 (AddMay G M v)) (hb : Below base w W3)
    (rm : v.ownBlock ≠ some M) (rg : v.ownBlock ≠ some G) (hv : ∀ k, v.ownBlock = some k → base ≤ k) (hne : G ≠ M) (gb : base ≤ G) (mb : base ≤ M)
    (own : wa.ownsRow base 31 3 (.slice (some ⟨ga, 0, none⟩) (ks.length + 1) ca) (ks.length + 1) (cells ++ news)) (gr : (W3.alloc o).drew.grownBy wa v.ownBlock) (at_ : v.ownBlock = some ga ∨ ga = (W3.alloc o).drew.heap.size) :
    GraphAt (wa.setCell ⟨G, 4, none⟩ (.slice (some ⟨ga, 0, none⟩) (ks.length + 1) ca)) G M base s0 s1 s2 s3 (.slice (some ⟨ga, 0, none⟩) (ks.length + 1) ca) (cells ++ news) (ks ++ [kb]) ∧
    Below base w (wa.setCell ⟨G, 4, none⟩ (.slice (some ⟨ga, 0, none⟩) (ks.length + 1) ca)) ∧ Kept w (wa.setCell ⟨G, 4, none⟩ (.slice (some ⟨ga, 0, none⟩) (ks.length + 1) ca)) (AddMay G M v) := by
  have hs : (W3.alloc o).drew.heap.size = W3.heap.size + 1 := by simp
  have ga3 : wa.heap[G]? = some (.cells #[s0, s1, s2, s3, v, .map (some M)] 64 (0, 0)) := (gr.block G (by have := blk_lt g3; omega) (Ne.symm rg)).trans (old_at g3 o)
  have gne : ga ≠ G := fun h => by
    subst h
    rcases at_ with h | h
    · exact rg h
    · have := blk_lt g3; omega
  have hgl : G < W3.heap.size := blk_lt g3
  have hml : M < W3.heap.size := hm.lt
  have hbb : base ≤ W3.heap.size := by omega
  refine ⟨⟨?_, ?_, ?_, gb, mb, hne⟩, ?_, ?_⟩
  · exact blk_set ga3 4 _
  · refine (hm.below (below_alloc (Below.refl _ _) o)).keep ?_
    rw [Below.heap_setCell wa _ _ M (fun h => hne h.symm)]
    exact gr.block M (by omega) (Ne.symm rm)
  · rw [List.length_append]
    refine own_move own (fun k hk => Below.heap_setCell wa _ _ k (fun h => ?_))
    have : ga = k := by simpa [Value.ownBlock] using hk
    subst this
    exact gne h
  · have h1 : Below base w (W3.alloc o).drew := below_then hb hbb (below_drew1 (below_alloc (Below.refl _ _) o))
    have h2 : Below base w wa := pw_below_grown h1 _ (by omega) gr hv
    exact h2.setCell (p := ⟨G, 4, none⟩) gb _
  · have h1 : Kept w (W3.alloc o).drew (AddMay G M v) := hk.alloc o
    have h2 : Kept w wa (AddMay G M v) := Kept.of_grown gr h1 (fun k hk => .inl (.inr (.inr hk)))
    exact h2.setCell (.inl (.inl rfl)) _

set_option maxRecDepth 100000 in
set_option maxHeartbeats 4000000 in
theorem add_new (G M base : Nat) (s0 s1 s2 s3 v : Value) (cells : List Value) (ks : List (Int × List S48)) (slot val : Int) (B : Option Addr) (cb : Nat) (b : List S48) (w : World)
    (hg : GraphAt w G M base s0 s1 s2 s3 v cells ks) (hr : Kd.C k48 w B b.length b) (h3 : ∀ q ∈ ks, q.2.length ≤ 3) (hb1 : 1 ≤ b.length) (hb3 : b.length ≤ 3) (hk : keyAt ks (slot, b) = none) (hlen : ks.length ≤ 10000) :
    Calls Try.prog 32 #[.pointer (some ⟨G, 0, none⟩), .agg #[.int .i64 slot, .slice B b.length cb, .int .i64 val]] w fun e w' => e = .returned (.tuple #[]) ∧ ∃ v', GraphAt w' G M base s0 s1 s2 s3 v' (cells ++ [.int .i64 slot, .slice B b.length cb, .int .i64 val]) (ks ++ [(slot, b)]) ∧ Below base w w' ∧ Kept w w' (AddMay G M v) := by
  obtain ⟨Av, cv, rfl⟩ := own_slice hg.row
  have HLB := Aside0.mk (show base ≤ w.heap.size by have := hg.gb; have := blk_lt hg.blk; omega)
  have HG := Aside0.mk hg
  have HK := Aside0.mk hk
  have hlk := fun W (hW : MapIs W M ks) => lookup_run W M ks (slot, b) hb3 h3 hW
  rw [hk] at hlk
  have hup := fun W (hW : MapIs W M ks) => update_run W M ks (slot, b) hb3 h3 hW hk
  have HUP := Aside0.mk hup
  have HLK := Aside0.mk hlk
  have HKEY := fun o => Aside0.mk (keyOf_calls slot B cb b (w.alloc o) (Kd.C_alloc hr o) hb3 hb1)
  obtain ⟨a0, a1, a2, a3, a4, a5, a6, h7⟩ := seven (keyInts_len slot b hb3)
  have H7 := Aside0.mk h7
  clear hg hk hlk hup hr h3 h7
  go_enter Try.func32, Try.ntmps32
  go_wp2_with fail
  refine (HKEY _).out.mono ?_
  rw [keyV, H7.out]
  rintro e w1 ⟨rfl, hb⟩
  have HB := Aside0.mk (below_step (below_alloc (Below.refl _ _) _) hb)
  have KB := Aside0.mk (pw_blk_below hb (heap_alloc_new w (.cells #[.int .i64 slot, .slice B b.length cb, .int .i64 val] 31)))
  clear hb HKEY
  simp only [List.map_cons, List.map_nil]
  go_wp2_with fail
  obtain ⟨W, hW⟩ : ∃ W, W = w1.alloc (.cells #[.int .i64 a0, .int .i64 a1, .int .i64 a2, .int .i64 a3, .int .i64 a4, .int .i64 a5, .int .i64 a6] 69) := ⟨_, rfl⟩
  have HBW := Aside0.mk (show Below w.heap.size w W by rw [hW]; exact below_alloc HB.out _)
  have q0 : W.heap[w1.heap.size]? = some (.cells #[.int .i64 a0, .int .i64 a1, .int .i64 a2, .int .i64 a3, .int .i64 a4, .int .i64 a5, .int .i64 a6] 69 (0, 0)) := by rw [hW]; exact heap_alloc_new _ _
  have KB1 := Aside0.mk (show W.heap[w.heap.size]? = some (.cells #[.int .i64 slot, .slice B b.length cb, .int .i64 val] 31 (0, 0)) by rw [hW]; exact old_at KB.out _)
  rw [← hW]
  clear hW HB KB
  have c0 := blk_cell q0 0
  have c1 := blk_cell q0 1
  have c2 := blk_cell q0 2
  have c3 := blk_cell q0 3
  have c4 := blk_cell q0 4
  have c5 := blk_cell q0 5
  have c6 := blk_cell q0 6
  simp at c0 c1 c2 c3 c4 c5 c6
  have g5 := blk_cell (pw_blk_below HBW.out HG.out.blk) 5
  simp at g5
  have hl : ∀ n, (Instr.lookup 62 (.map (some M)) (.agg #[.int .i64 a0, .int .i64 a1, .int .i64 a2, .int .i64 a3, .int .i64 a4, .int .i64 a5, .int .i64 a6]) true).run Try.prog (W.drewN n) = .ok (.tuple #[.int .i64 0, .bool false]) (W.drewN n) := fun n => by
    have := HLK.out (W.drewN n) (HG.out.map.below (pw_below_drewN HBW.out n))
    rw [keyV, H7.out] at this
    exact this
  have Q0 := Aside0.mk q0
  clear q0 HLK
  generalize w1.heap.size = X at *
  go_quiet (fail)
  obtain ⟨W2, hW2⟩ : ∃ W2, W2 = W.drewN nq := ⟨_, rfl⟩
  have HB2 := Aside0.mk (show Below w.heap.size w W2 by rw [hW2]; exact pw_below_drewN HBW.out nq)
  have KB2 := Aside0.mk (show W2.heap[w.heap.size]? = some (.cells #[.int .i64 slot, .slice B b.length cb, .int .i64 val] 31 (0, 0)) by rw [hW2]; exact KB1.out)
  have Q2 := Aside0.mk (show W2.heap[X]? = some (.cells #[.int .i64 a0, .int .i64 a1, .int .i64 a2, .int .i64 a3, .int .i64 a4, .int .i64 a5, .int .i64 a6] 69 (0, 0)) by rw [hW2]; exact Q0.out)
  rw [← hW2]
  clear hW2 hl c0 c1 c2 c3 c4 c5 c6 g5
  have hG2 := HG.out.below HB2.out
  have Q2 := Q2.out
  have c0 := blk_cell Q2 0
  have c1 := blk_cell Q2 1
  have c2 := blk_cell Q2 2
  have c3 := blk_cell Q2 3
  have c4 := blk_cell Q2 4
  have c5 := blk_cell Q2 5
  have c6 := blk_cell Q2 6
  have g4 := blk_cell hG2.blk 4
  have g5 := blk_cell hG2.blk 5
  simp at c0 c1 c2 c3 c4 c5 c6 g4 g5
  obtain ⟨o, hup, hmap⟩ := HUP.out W2.drew (hG2.map.below (below_drew1 (Below.refl _ _)))
  rw [keyV, H7.out] at hup
  simp only [List.map_cons, List.map_nil] at hup
  have HM := Aside0.mk hmap
  have HG2 := Aside0.mk hG2
  clear hmap HUP hG2 Q2
  go_upto_region 4 with (fail)
  go_still_tail 10, (by kernel_rfl)
  change wpList _ _ _ _ _ W2.drew
  go_upto_region 5 with (fail)
  obtain ⟨W3, hW3⟩ : ∃ W3, W3 = W2.drew.putObj M o := ⟨_, rfl⟩
  have hlM : M < W2.heap.size := HG2.out.map.lt
  have hlG : G < W2.heap.size := blk_lt HG2.out.blk
  have hsz : W3.heap.size = W2.heap.size := by rw [hW3, World.putObj_size]; rfl
  have hfar : ∀ k, k ≠ M → W3.heap[k]? = W2.heap[k]? := fun k hk => by rw [hW3]; exact World.putObj_heap_other hk
  have HM3 := Aside0.mk (show MapIs W3 M (ks ++ [(slot, b)]) by rw [hW3]; exact HM.out)
  have hb3 : Below base W2 W3 := ⟨by rw [hW3]; rfl, by rw [hW3]; rfl, by rw [hW3]; rfl, by omega, fun k hk => hfar k (by have := HG2.out.mb; omega)⟩
  have hk3 : Kept w W3 (AddMay G M (.slice Av ks.length cv)) := (Kept.of_below HB2.out _).then_ (S2 := fun k => k = M) ⟨by omega, fun k _ hk => hfar k hk⟩ (fun k hk => .inl (.inr (.inl hk)))
  rw [← hW3]
  clear hW3 hup HM
  have g3 : W3.heap[G]? = some (.cells #[s0, s1, s2, s3, .slice Av ks.length cv, .map (some M)] 64 (0, 0)) := (hfar G HG2.out.ne).trans HG2.out.blk
  have hrow : W3.ownsRow base 31 3 (.slice Av ks.length cv) ks.length cells := own_move HG2.out.row (fun k hk => hfar k (fun h => row_ne_map HG2.out.map HG2.out.row (h ▸ hk)))
  have k3 : W3.heap[w.heap.size]? = some (.cells #[.int .i64 slot, .slice B b.length cb, .int .i64 val] 31 (0, 0)) := (hfar _ (by have := HG.out.map.lt; omega)).trans KB2.out
  have hRM : (Value.slice Av ks.length cv).ownBlock ≠ some M := row_ne_map HG2.out.map HG2.out.row
  have hRG : (Value.slice Av ks.length cv).ownBlock ≠ some G := fun h => by
    obtain ⟨c, hc⟩ := own_typed hrow _ h
    rw [g3] at hc; cases hc
  have g4 := blk_cell g3 4
  have d0 := blk_cell k3 0
  have d1 := blk_cell k3 1
  have d2 := blk_cell k3 2
  have z4 : W3.frozen? ⟨G, 4, none⟩ = false := blk_frozen g3 4
  simp at g4 d0 d1 d2
  clear c0 c1 c2 c3 c4 c5 c6 g5
  obtain ⟨i0, hi0, hz0, hz1, hz2⟩ := info_parts info31
  have HROW := Aside0.mk hrow
  have G3 := Aside0.mk g3
  have HB3 := Aside0.mk hb3
  have HK3 := Aside0.mk hk3
  have RM := Aside0.mk hRM
  have RG := Aside0.mk hRG
  have HSZ := Aside0.mk hsz
  have LG := Aside0.mk hlG
  have LM := Aside0.mk hlM
  have LK1 := Aside0.mk (show ks.length + 1 ≤ maxLen by unfold maxLen; omega)
  have LK2 := Aside0.mk (show (ks.length + 1) * 40 ≤ 140737488355328 by omega)
  have LB := Aside0.mk (show base ≤ W3.heap.size by have := HG2.out.gb; omega)
  clear hrow g3 hfar hb3 hk3 hRM hRG k3 KB2 KB1 HK H7 hlG hlM
  have RY := Aside0.mk (show (Value.slice Av ks.length cv).ownBlock ≠ some w.heap.size from fun h => by have := own_lt HG.out.row _ h; omega)
  generalize w.heap.size = Y at d0 d1 d2 RY
  clear hsz
  have ga4 : ∀ o, (W3.alloc o).cell? ⟨G, 4, none⟩ = some (.slice Av ks.length cv) := fun o => cell_alloc g4 o
  go_region_law
    (first
    | (refine step_append_lies (o := ⟨some 40, _, _, _, _, _⟩) _ (by rfl) (.tmp 37) (.tmp 39) 27 (by rfl) base 31 i0 _ 3 40 Try.underlying27 hi0 hz0 hz1 hz2 (by rfl) (Nat.succ_pos 2) (.slice Av ks.length cv) ks.length cells (by rfl) ?own _ 1 1 [.int .i64 slot, .slice B b.length cb, .int .i64 val] (by rfl) (by rfl) ?news (by simp [Value.oneCell']) (Nat.succ_pos 0) LK1.out LK2.out ?base _ (by rfl) ?_
       (case own => exact (HROW.out.alloc (.cells #[.int .i64 slot, .slice B b.length cb, .int .i64 val] 31)).drew)
       (case news => exact World.news_of_block (cs := #[.int .i64 slot, .slice B b.length cb, .int .i64 val]) (t := 31) (fr := (0, 0)) (heap_alloc_new W3 (.cells #[.int .i64 slot, .slice B b.length cb, .int .i64 val] 31)))
       (case base => (have := LB.out; simp; omega))
       intro ga ca wa owna growa ata lta
       have ka : wa.cell? ⟨G, 4, none⟩ = some (.slice Av ks.length cv) := growa.cell (cell_alloc g4 _) (Ne.symm RG.out)
       have kf : wa.frozen? ⟨G, 4, none⟩ = false := (growa.frozen_far ⟨G, 4, none⟩ (blk_lt (old_at G3.out _)) (Ne.symm RG.out)).trans (blk_frozen (old_at G3.out _) 4)))
  all_goals
    obtain ⟨e1, e2, e3⟩ := add_end G3.out HM3.out HK3.out ((HB2.out.mono HLB.out).trans HB3.out) RM.out RG.out (fun k hk => own_base HROW.out k hk) HG2.out.ne HG2.out.gb HG2.out.mb owna growa ata
    go_wp2_with fail
    go_end0
    exact ⟨rfl, _, e1, e2, e3⟩
end Go.Proofs.Ytppdckjgdamlnaa

namespace Go.Proofs.Ytppdckjgdamlnaa
open Go.RowKit Go.Proofs.YtppdckjgdamlnaaW.PrintWords Go.Proofs.YtppdckjgdamlnaaW.PrintLast Go.Proofs.YtppdckjgdamlnaaW.PrintMore Q Go.Shelf

variable {P : Program}

/-- An iterator's word, where what it hands over is told by 'Vx' in the world of the round. -/
def SeqV {α : Type} (P : Program) (g : Nat) (lb : Array Value) (encs : α → Array Value) (Vx : α → World → Prop) (Kp : World → World → Prop) (S Sp : List α → Prop) (w : World) : Prop :=
  ∀ (l : Nat) (J Jx : List α → World → Prop) (W : World), Below w.heap.size w W → AbidesFrom W.heap.size J → AbidesFrom W.heap.size Jx →
    (∀ pre x W1, J pre W1 → Vx x W1 → YieldAt Fence.wide 0 P l (encs x) W1 fun e W' =>
      (e = .returned (.bool true) ∧ J (pre ++ [x]) W' ∧ Kp W1 W') ∨ (e = .returned (.bool false) ∧ Jx (pre ++ [x]) W')) →
    J [] W →
    CallsIn Fence.wide 1 P g (#[.func (.yield l) #[] #[]] ++ lb) W fun e W' => (∃ v, e = .returned v) ∧ ((∃ xs, S xs ∧ J xs W') ∨ (∃ pre, Sp pre ∧ Jx pre W'))

theorem wpIn_rangeV {α : Type} {g : Operand} {ps : Array Tmp} {assign body : Code} {Q : Exit → Act → World → Prop} {a : Act} {w : World} {gf : Nat} {lb : Array Value}
    (hg : a.eval g = .func (.func gf) #[] lb) (eg : ∀ args w, (callFunc gf args).run P w = .ok (.enter gf args) w)
    {encs : α → Array Value} {Vx : α → World → Prop} {Kp : World → World → Prop} {S Sp : List α → Prop} {w0 : World} (hseq : SeqV P gf lb encs Vx Kp S Sp w0)
    (hKt : ∀ {A B C : World}, Kp A B → Kp B C → Kp A C) (hKb : ∀ (W : World) (l : Nat) (o o' : Obj), w.heap.size ≤ l → W.heap[l]? = some o → o.isCells = false → Kp W (W.putObj l o'))
    (hb0 : Below w0.heap.size w0 w) (hps : ∀ x, (encs x).size = ps.size) (hV : OwnFrom w.heap.size Vx)
    (I : List α → World → Prop) (Ix : Code → List α → World → Prop) (hI : OwnFrom w.heap.size I) (hIx : ∀ c, OwnFrom w.heap.size (Ix c)) (h0 : I [] w) (a₁ : α → Act)
    (hassign : ∀ (l : Nat) (x : α) (W : World) (K : Act → World → Prop), K (a₁ x) W →
      assign.wpIn (Fence.wide.inRound l) 0 P (Exit.then K (fun _ _ _ => False)) { tmps := (ps.zip (encs x)).foldl (fun t (p, v) => t.setIfInBounds p v) a.tmps, defers := [] } W)
    (hbody : ∀ (l : Nat) (pre : List α) (x : α) (W : World), I pre W → Vx x W → body.wpIn (Fence.wide.inRound l) 0 P (ownPostG w.heap.size Kp I Ix (pre ++ [x]) W) (a₁ x) W)
    (hdone : ∀ (D : Nat) (xs : List α) (W : World), w.heap.size ≤ D → S xs → I xs W → W.heap[D]? = some (.deferred (some [])) → Q .normal { a with defers := { target := .collected D, args := #[] } :: a.defers } W)
    (hstop : ∀ (D : Nat) (c : Code) (pre : List α) (W : World), w.heap.size ≤ D → Sp pre → Ix c pre W → W.heap[D]? = some (.deferred (some [])) → c.wpIn Fence.wide 2 P Q { a with defers := { target := .collected D, args := #[] } :: a.defers } W) :
    (Code.rangeFunc g ps assign body).wpIn Fence.wide 2 P Q a w := by
  refine wpIn_rangeFunc ?_
  intro fn hfn
  obtain ⟨rec, hrec⟩ : ∃ rec : LoopState → Option Code → Loop, rec = fun st pe => { state := st, pending := pe, fn, tmps := a.tmps, params := ps, assign, body, defers := w.heap.size } := ⟨_, rfl⟩
  obtain ⟨W1, hW1⟩ : ∃ W1, W1 = (w.alloc (.deferred (some []))).alloc (.loop (rec .ready none)) := ⟨_, rfl⟩
  have hs1 : W1.heap.size = w.heap.size + 2 := by rw [hW1]; simp
  have hL1 : W1.heap[w.heap.size + 1]? = some (.loop (rec .ready none)) := by
    rw [hW1]; exact new_at (by simp)
  have hD1 : W1.heap[w.heap.size]? = some (.deferred (some [])) := by rw [hW1]; exact old_at (new_at rfl) _
  have hI1 : I [] W1 := by rw [hW1]; exact hI.alloc _ (hI.alloc _ h0)
  have hb1 : Below w0.heap.size w0 W1 := below_step hb0 (by rw [hW1]; exact below_alloc (below_alloc (Below.refl _ _) _) _)
  have hrs : ∀ {A : World} {row : Option Nat}, (∀ r, row = some r → W1.heap.size ≤ r ∧ ∃ o : Obj, A.heap[r]? = some o ∧ o.isWalk = true) → ∀ r, row = some r → w.heap.size ≤ r ∧ ∃ o : Obj, A.heap[r]? = some o ∧ o.isCells = false :=
    fun hr r e => by obtain ⟨hB, o, ho, hw⟩ := hr r e; exact ⟨by omega, o, ho, Obj.not_cells_of_walk hw⟩
  have hfix : ∀ {A B : World} {row : Option Nat} {k : Nat} {o : Obj}, A.grownBy B row → (∀ r, row = some r → W1.heap.size ≤ r ∧ ∃ o : Obj, A.heap[r]? = some o ∧ o.isWalk = true) → k < W1.heap.size → A.heap[k]? = some o → B.heap[k]? = some o :=
    fun hg' hr hk h => (hg'.block _ (blk_lt h) (fun e => by have := (hr _ e.symm).1; omega)).trans h
  refine ⟨w.heap.size + 1, [{ target := .collected w.heap.size, args := #[] }], W1, { target := .fn (.func gf) lb, args := #[.func (.yield (w.heap.size + 1)) #[] #[]] }, W1, gf,
    #[.func (.yield (w.heap.size + 1)) #[] #[]] ++ lb, W1, ?_, ?_, fun _ _ => trivial, ?_, fun h => by simp [Fence.wide] at h, ?_⟩
  · rw [hW1, hrec]; exact run_enterLoop_outer _ _ _ _ _
  · simp only [resolve, hg]
    simp [go_sem]
  · simp [invoke, go_sem, eg]
  refine (hseq (w.heap.size + 1)
    (fun pre W => I pre W ∧ W.heap[w.heap.size + 1]? = some (.loop (rec .ready none)) ∧ W.heap[w.heap.size]? = some (.deferred (some [])))
    (fun pre W => ∃ c, Ix c pre W ∧ W.heap[w.heap.size + 1]? = some (.loop (rec .done (some c))) ∧ W.heap[w.heap.size]? = some (.deferred (some []))) W1 hb1
    (fun s A B row hs hg' hr => ⟨hI s A B row hs.1 hg' (hrs hr), hfix hg' hr (by omega) hs.2.1, hfix hg' hr (by omega) hs.2.2⟩)
    (fun s A B row hs hg' hr => by
      obtain ⟨c, hc, hl, hk⟩ := hs
      exact ⟨c, hIx c s A B row hc hg' (hrs hr), hfix hg' hr (by omega) hl, hfix hg' hr (by omega) hk⟩)
    ?_ ⟨hI1, hL1, hD1⟩).mono ?_
  · rintro pre x W ⟨hi, hl, hk⟩ hv
    have hlt : w.heap.size + 1 < W.heap.size := blk_lt hl
    have hy := run_yield (P := P) (args := encs x) hl (by rw [hrec]; exact hps x)
    rw [hrec] at hy
    refine ⟨fn, _, assign, body, hy, roundIn_of_wpIn hfn (hassign _ x W _ ⟨_, run_beginRound hl (by rw [hrec]), ?_⟩)⟩
    obtain ⟨W2, hW2⟩ : ∃ W2, W2 = W.putObj (w.heap.size + 1) (.loop { rec .ready none with state := .busy }) := ⟨_, rfl⟩
    have hl2 : W2.heap[w.heap.size + 1]? = some (.loop { rec .ready none with state := .busy }) := by rw [hW2]; exact World.putObj_heap_same hlt
    have hk2 : W2.heap[w.heap.size]? = some (.deferred (some [])) := by rw [hW2]; exact (World.putObj_heap_other (by omega)).trans hk
    have hw2 : Kp W W2 := by rw [hW2]; exact hKb _ _ _ _ (by omega) hl rfl
    have hi2 : I pre W2 := by rw [hW2]; exact hI.putObj _ hi (by omega) hl rfl
    have hv2 : Vx x W2 := by rw [hW2]; exact hV.putObj _ hv (by omega) hl rfl
    rw [← hW2]
    refine wpIn_mono (hbody _ pre x _ hi2 hv2) ?_
    have fin : ∀ (jump : Option Code) (W3 : World), KeepsFrom w.heap.size W2 W3 →
        (Instr.endRound (w.heap.size + 1) jump).run P W3 = .ok (.bool jump.isNone) (W3.putObj (w.heap.size + 1) (.loop (rec (if jump.isNone then .ready else .done) jump))) ∧
        W3.heap[w.heap.size + 1]? = some (.loop { rec .ready none with state := .busy }) ∧
        (W3.putObj (w.heap.size + 1) (.loop (rec (if jump.isNone then .ready else .done) jump))).heap[w.heap.size + 1]? = some (.loop (rec (if jump.isNone then .ready else .done) jump)) ∧
        (W3.putObj (w.heap.size + 1) (.loop (rec (if jump.isNone then .ready else .done) jump))).heap[w.heap.size]? = some (.deferred (some [])) := fun jump W3 hk3 => by
      have hl3 := hk3.same _ _ (by omega) hl2 rfl
      have he := run_endRound (P := P) jump hl3
      rw [hrec] at he ⊢
      refine ⟨he, by rw [hrec] at hl3; exact hl3, World.putObj_heap_same (blk_lt hl3), (World.putObj_heap_other (by omega)).trans (hk3.same _ _ (Nat.le_refl _) hk2 rfl)⟩
    rintro e a3 W3 hp
    cases e with
    | normal =>
      obtain ⟨hk3, hkp3, hi3⟩ := hp
      obtain ⟨hr, hl3, hl4, hk4⟩ := fin none W3 hk3
      exact ⟨_, _, hr, .inl ⟨rfl, ⟨hI.putObj _ hi3 (by omega) hl3 rfl, hl4, hk4⟩, hKt (hKt hw2 hkp3) (hKb _ _ _ _ (by omega) hl3 rfl)⟩⟩
    | ret =>
      obtain ⟨hk3, hi3⟩ := hp
      obtain ⟨hr, hl3, hl4, hk4⟩ := fin (some .ret) W3 hk3
      exact ⟨_, _, hr, .inr ⟨rfl, .ret, (hIx _).putObj _ hi3 (by omega) hl3 rfl, hl4, hk4⟩⟩
    | exit id =>
      obtain ⟨hk3, hi3⟩ := hp
      obtain ⟨hr, hl3, hl4, hk4⟩ := fin (some (.exit id)) W3 hk3
      exact ⟨_, _, hr, .inr ⟨rfl, .exit id, (hIx _).putObj _ hi3 (by omega) hl3 rfl, hl4, hk4⟩⟩
    | goto t =>
      obtain ⟨hk3, hi3⟩ := hp
      obtain ⟨hr, hl3, hl4, hk4⟩ := fin (some (.goto t)) W3 hk3
      exact ⟨_, _, hr, .inr ⟨rfl, .goto t, (hIx _).putObj _ hi3 (by omega) hl3 rfl, hl4, hk4⟩⟩
    | panic ch => exact hp.elim
    | outgrown => exact hp.elim
  · rintro e W2 ⟨⟨v, rfl⟩, (⟨xs, hS, hi, hl, hk⟩ | ⟨pre, hSp, c, hi, hl, hk⟩)⟩
    · exact ⟨none, _, by have := run_endLoop (P := P) hl (by rw [hrec]; simp); rw [hrec] at this; exact this, hdone _ xs _ (Nat.le_refl _) hS (hI.putObj _ hi (by omega) hl rfl) ((World.putObj_heap_other (by omega)).trans hk)⟩
    · exact ⟨some c, _, by have := run_endLoop (P := P) hl (by rw [hrec]; simp); rw [hrec] at this; exact this, hstop _ c pre _ (Nat.le_refl _) hSp ((hIx c).putObj _ hi (by omega) hl rfl) ((World.putObj_heap_other (by omega)).trans hk)⟩

end Go.Proofs.Ytppdckjgdamlnaa

namespace Go.Proofs.Ytppdckjgdamlnaa
open Go.RowKit Go.Sort Go.Proofs.YtppdckjgdamlnaaW.PrintWords Go.Proofs.YtppdckjgdamlnaaW.PrintLast Go.Proofs.YtppdckjgdamlnaaW.PrintMore Q Go.Shelf

section
variable {P : Program} {ops : Array Oper} {C : World → Prop} {l n : Nat}

/-- no defer statement -/
def noDefer (o : Oper) : Bool := match o.op with | .defer _ => false | _ => true
theorem noDefer_spec {o : Oper} (h : noDefer o = true) : ∀ c, o.op ≠ .defer c := fun c e => by simp [noDefer, e] at h

theorem op_round_quiet {o : Oper} {a : Act} {K : Act → Prop} {K' : Act → World → Prop} {Q' : Exit → Act → World → Prop} {w : World} (hd : noDefer o = true) (hw : C w) (h : ∀ a w', C w' → K a → K' a w') (hh : o.quiet P a C K) :
    o.wpIn (Fence.wide.inRound l) n P a w K' Q' := by
  obtain ⟨v, h1, h2⟩ := hh
  have h3 := h1 w hw
  unfold Oper.quietAt at h3
  unfold Oper.wpIn
  refine ⟨fun _ _ => trivial, ?_⟩
  rw [Oper.semAt_eq _ _ _ (noDefer_spec hd)]
  generalize (execOp a.eval o).run P w = r at *
  cases r with
  | ok n w' =>
    cases n <;> simp only [Oper.quietUpon] at h3 <;> simp only [Oper.uponIn]
    case value u =>
      obtain ⟨e1, e2⟩ := h3
      rw [e1, e2]
      exact h _ _ hw h2
    case skip =>
      obtain ⟨e1, e2⟩ := h3
      rw [e1, ← e2]
      exact h _ _ hw h2
    case enter f args =>
      obtain ⟨e1, hc⟩ := h3
      rw [e1]
      refine ⟨fun h => by simp [Fence.wide, Fence.inRound] at h, ?_⟩
      refine CallsIn.inRound l (CallsIn.mono (callsIn_wide.2 hc) ?_)
      rintro e w'' ⟨rfl, hw''⟩
      exact h _ _ hw'' h2
  | halt x w' => simp only [Oper.quietUpon] at h3

theorem opi_round_quiet {i : Nat} {a : Act} {K : Act → Prop} {K' : Act → World → Prop} {Q' : Exit → Act → World → Prop} {w : World} (hd : ops.all noDefer = true) (hC : C w) (h : ∀ a w', C w' → K a → K' a w') (hh : qOp P ops C i K a) :
    wpOpIn (Fence.wide.inRound l) n P ops Q' i K' a w := by
  unfold qOp at hh
  unfold wpOpIn
  split
  · rename_i ho; simp only [ho] at hh; exact h _ _ hC hh
  · rename_i o ho
    simp only [ho] at hh
    split
    · rename_i hw
      simp only [hw, if_true] at hh
      refine op_round_quiet (Array.all_eq_true_iff_forall_mem.1 hd o ?_) hC h hh
      exact Array.mem_of_getElem? ho
    · rename_i hw; simp only [hw] at hh; exact ⟨fun _ _ => trivial, h _ _ hC hh⟩

theorem any_round_quiet {md : Region.Mode} {Q : Act → Prop} {Q' : Exit → Act → World → Prop} (hd : ops.all noDefer = true) (hQ : ∀ a w, C w → Q a → Q' .normal a w) : ∀ (fuel : Nat) (listed : Array Bool) (a : Act) (w : World), C w →
    wpAnyQ P md ops C Q fuel listed a → wpAnyIn (Fence.wide.inRound l) n P md ops Q' fuel listed a w
  | 0, _, _, _, hw, h => ⟨h.1, hQ _ _ hw h.2⟩
  | fuel + 1, _, _, _, hw, h => ⟨fun h0 => hQ _ _ hw (h.1 h0), fun i hi => opi_round_quiet hd hw (fun a' w' hw' => any_round_quiet hd hQ fuel _ a' w' hw') (h.2 i hi)⟩

/-- a drawn region in a round, whose callees may lay blocks -/
theorem round_quiet {id : Nat} {Q : Exit → Act → World → Prop} {a : Act} {w : World} {xs : List Oper} (hm : P.follows .mixedOrders = true) (hB : Region.lexB .any xs.toArray = true) (hd : xs.toArray.all noDefer = true)
    (h : wpQuiet P xs.toArray (fun w' => ∃ p : Regrown, w' = grow (redrawn w p.d) p.os) (fun a' => ∀ w', (∃ p : Regrown, w' = grow (redrawn w p.d) p.os) → Q .normal a' w') xs a) : (Code.region id xs.toArray true).wpIn (Fence.wide.inRound l) n P Q a w := by
  simp only [Region.lexB, Bool.and_eq_true] at hB
  refine wpIn_region_any hm (any_round_quiet (C := fun w' => ∃ p : Regrown, w' = grow (redrawn w p.d) p.os) (Q := fun a' => ∀ w', (∃ p : Regrown, w' = grow (redrawn w p.d) p.os) → Q .normal a' w') hd (fun _ w' hw' h => h w' hw') _ _ _ _ ⟨⟨w.drawn + 1, #[]⟩, by rw [grow_empty]; rfl⟩ ?_)
  have := wpAnyQ_lex (C := fun w' => ∃ p : Regrown, w' = grow (redrawn w p.d) p.os) (md := .any) hB.1 xs 0 (Array.replicate xs.toArray.size false) a (by simp) (by simpa using hB.2) h
  simpa using this
end

/-- the marks that the loops have left, each at a block of its own -/
def Marks (B : Nat) : World → List Deferred → Prop
  | _, [] => True
  | W, d :: ds => (∃ D, d = { target := .collected D, args := #[] } ∧ B ≤ D ∧ W.heap[D]? = some (.deferred (some [])) ∧ ∀ e ∈ ds, e.target ≠ .collected D) ∧ Marks B W ds

theorem Marks.keep {B : Nat} : ∀ {ds : List Deferred} {W W' : World}, Marks B W ds → (∀ D, W.heap[D]? = some (.deferred (some [])) → (∃ e ∈ ds, e.target = .collected D) → W'.heap[D]? = some (.deferred (some []))) → Marks B W' ds
  | [], _, _, _, _ => trivial
  | d :: ds, W, W', ⟨⟨D, e, hB, hk, hn⟩, h⟩, hw => ⟨⟨D, e, hB, hw D hk ⟨d, by simp, by rw [e]⟩, hn⟩, h.keep fun D' hD' ⟨e', he', ht'⟩ => hw D' hD' ⟨e', by simp [he'], ht'⟩⟩

/-- the world behind the marks -/
def shut (W : World) : List Deferred → World
  | [] => W
  | d :: ds => shut (match d.target with | .collected D => W.putObj D (.deferred none) | _ => W) ds

theorem leaves_marks {P : Program} {fn : Func} {tmps : Array Value} {R : Ending → World → Prop} {B : Nat} : ∀ (ds : List Deferred) (W : World), Marks B W ds → LeavesIn Fence.wide 2 P fn tmps R [] .returning (shut W ds) → LeavesInM Fence.wide 2 P fn tmps R ds .returning W
  | [], W, _, h => h
  | d :: ds, W, ⟨⟨D, e, hB, hk, hn⟩, h⟩, hl => by
    subst e
    refine ⟨by simp, .inl ⟨D, _, rfl, run_takeDeferred hk, ?_⟩⟩
    refine leaves_marks ds _ (h.keep fun D' hD' ⟨e', he', ht'⟩ => ?_) hl
    refine (World.putObj_heap_other ?_).trans hD'
    intro hDD
    exact hn e' he' (by rw [ht', hDD])

theorem Marks.after {B : Nat} {d : Deferred} {ds : List Deferred} {W : World} (h : Marks B W (d :: ds)) {D : Nat} (hd : d.target = .collected D) (o : Obj) : Marks B (W.putObj D o) ds := by
  obtain ⟨⟨D', e, hB, hk, hn⟩, h⟩ := h
  subst e
  cases hd
  refine h.keep fun D2 hD ⟨e', he', ht'⟩ => (World.putObj_heap_other ?_).trans hD
  intro hDD
  exact hn e' he' (by rw [ht', hDD])

theorem shut_below {B : Nat} : ∀ (ds : List Deferred) (W : World), Marks B W ds → Below B W (shut W ds) ∧ ∀ (k : Nat) cs T f, W.heap[k]? = some (Obj.cells cs T f) → (shut W ds).heap[k]? = some (Obj.cells cs T f)
  | [], W, _ => ⟨Below.refl _ _, fun _ _ _ _ h => h⟩
  | d :: ds, W, h => by
    obtain ⟨⟨D, e, hB, hk, hn⟩, h2⟩ := h
    have h3 := shut_below ds (W.putObj D (.deferred none)) (Marks.after (d := d) ⟨⟨D, e, hB, hk, hn⟩, h2⟩ (by rw [e]) _)
    subst e
    refine ⟨Below.trans ?_ h3.1, fun k cs T f hc => h3.2 k cs T f ((World.putObj_heap_other ?_).trans hc)⟩
    · exact ⟨rfl, rfl, rfl, by simp, fun k hk => World.putObj_heap_other (by omega)⟩
    · intro e; subst e; rw [hk] at hc; cases hc

/-- a return behind such loops -/
theorem leaves_ret {P : Program} {fn : Func} {tmps : Array Value} {R : Ending → World → Prop} {B : Nat} {ds : List Deferred} {W : World} (h : Marks B W ds) (v : Value)
    (hr : ∀ W', Below B W W' → (∀ (k : Nat) cs T f, W.heap[k]? = some (Obj.cells cs T f) → W'.heap[k]? = some (Obj.cells cs T f)) → (results fn tmps).run P W' = .ok v W' ∧ R (.returned v) W') :
    LeavesInM Fence.wide 2 P fn tmps R ds .returning W :=
  leaves_marks ds W h (by
    obtain ⟨h1, h2⟩ := hr _ (shut_below ds W h).1 (shut_below ds W h).2
    exact ⟨v, h1, h2⟩)

theorem Marks.push {B D : Nat} {W W' : World} {ds : List Deferred} (h : Marks B W ds) (hb : ∀ k o, W.heap[k]? = some o → o.isCells = false → B ≤ k → W'.heap[k]? = some o) (hD : W.heap.size ≤ D) (hB : B ≤ D) (hk : W'.heap[D]? = some (.deferred (some []))) :
    Marks B W' ({ target := .collected D, args := #[] } :: ds) := by
  refine ⟨⟨D, rfl, hB, hk, fun e he ht => ?_⟩, ?_⟩
  · have : ∀ {ds : List Deferred}, Marks B W ds → ∀ e ∈ ds, ∀ D', e.target = .collected D' → D' < W.heap.size := by
      intro ds
      induction ds with
      | nil => intro _ e he; cases he
      | cons d ds ih =>
        intro hm e he D' hD'
        obtain ⟨⟨D2, e2, hB2, hk2, hn2⟩, h2⟩ := hm
        rcases List.mem_cons.1 he with rfl | he
        · rw [e2] at hD'; cases hD'; exact blk_lt hk2
        · exact ih h2 e he D' hD'
    have := this h e he D ht
    omega
  · have : ∀ {ds : List Deferred}, Marks B W ds → Marks B W' ds := by
      intro ds
      induction ds with
      | nil => intro _; trivial
      | cons d ds ih =>
        intro hm
        obtain ⟨⟨D2, e2, hB2, hk2, hn2⟩, h2⟩ := hm
        exact ⟨⟨D2, e2, hB2, hb _ _ hk2 rfl hB2, hn2⟩, ih h2⟩
    exact this h
theorem Marks.step {B : Nat} {W W' : World} {ds : List Deferred} (h : Marks B W ds) (hb : ∀ k o, W.heap[k]? = some o → o.isCells = false → B ≤ k → W'.heap[k]? = some o) : Marks B W' ds := by
  induction ds with
  | nil => trivial
  | cons d ds ih =>
    obtain ⟨⟨D2, e2, hB2, hk2, hn2⟩, h2⟩ := h
    exact ⟨⟨D2, e2, hB2, hb _ _ hk2 rfl hB2, hn2⟩, ih h2⟩
end Go.Proofs.Ytppdckjgdamlnaa

namespace Go.Proofs.Ytppdckjgdamlnaa
open Go.RowKit Go.Proofs.YtppdckjgdamlnaaW.PrintWords Go.Proofs.YtppdckjgdamlnaaW.PrintLast Go.Proofs.YtppdckjgdamlnaaW.PrintMore Q Go.Shelf
attribute [local go_sem] Oper.semAt_some

theorem ways_calls (G : Nat) (w : World) (slot val : Int) (B : Option Addr) (k cb : Nat) :
    Calls Try.prog 35 #[.pointer (some ⟨G, 0, none⟩), .agg #[.int .i64 slot, .slice B k cb, .int .i64 val]] w fun e w' => e = .returned (.func (.func 56) #[] #[.pointer (some ⟨w.heap.size + 1, 0, none⟩), .pointer (some ⟨w.heap.size, 0, none⟩)]) ∧
      w' = (w.alloc (.cells #[.pointer (some ⟨G, 0, none⟩)] 61)).alloc (.cells #[.int .i64 slot, .slice B k cb, .int .i64 val] 31) := by
  go_enter Try.func35, Try.ntmps35
  go_wp2
  exact bodyPost_ret (v := .func (.func 56) #[] #[.pointer (some ⟨w.heap.size + 1, 0, none⟩), .pointer (some ⟨w.heap.size, 0, none⟩)]) (by simp [results, Try.results35, go_sem]) rfl ⟨rfl, rfl⟩

/-- one way: a mode, the next box, where it lies -/
structure Way where
  k : Nat
  g : Nat
  b : List S48

/-- a mode's next box, if it is inside of the limits -/
def wayOf (s : Sys) (load b : List S48) (k : Nat) : Option (Nat × List S48) :=
  match s.modes[k]? with
  | none => none
  | some m => if insideB s.lim (advL m load b) then some (k, advL m load b) else none
def waysTo (s : Sys) (load b : List S48) (n : Nat) : List (Nat × List S48) := (List.range n).filterMap (wayOf s load b)
theorem waysTo_succ (s : Sys) (load b : List S48) (n : Nat) : waysTo s load b (n + 1) = waysTo s load b n ++ (wayOf s load b n).toList := by
  unfold waysTo
  rw [List.range_succ, List.filterMap_append]
  cases h : wayOf s load b n <;> simp [h]
theorem waysTo_pre (s : Sys) (load b : List S48) (i : Nat) : ∀ n, i ≤ n → waysTo s load b i <+: waysTo s load b n := by
  intro n hn
  induction n with
  | zero => obtain rfl : i = 0 := by omega
            exact List.prefix_refl _
  | succ n ih =>
    rcases Nat.lt_or_ge n i with h | h
    · obtain rfl : i = n + 1 := by omega
      exact List.prefix_refl _
    · rw [waysTo_succ]
      exact (ih h).trans (List.prefix_append _ _)
/-- the ways of a node -/
def waysL (s : Sys) (slot : Nat) (b : List S48) : List (Nat × List S48) :=
  match s.loads[slot]? with
  | none => []
  | some load => waysTo s load b s.modes.length

def encW (x : Way) : Array Value := #[.int .i64 x.k, .slice (some ⟨x.g, 0, none⟩) x.b.length x.b.length]
def WayIs (s : Sys) (slot : Nat) (b : List S48) (n₀ : Nat) (x : Way) (W : World) : Prop := (x.k, x.b) ∈ waysL s slot b ∧ n₀ ≤ x.g ∧ W.heap[x.g]? = some (.cells (spans x.b).toArray 48 (0, 0))

theorem advL_len (m : S53) (load b : List S48) (h1 : m.f1.length = b.length) (h2 : load.length = b.length) : (advL m load b).length = b.length :=
  zipSp_len _ _ _ (nextL_len _ _ _ _ (by simp) h1 (by simp [h2])) (nextL_len _ _ _ _ (by simp) h1 (by simp [h2]))
/-- what the iterator reads -/
structure Seen (W : World) (G gb nb : Nat) (s : Sys) (A0 A1 A2 A3 : Option Addr) (c0 c1 c2 c3 : Nat) (slot : Nat) (B : Option Addr) (cb : Nat) (b : List S48) : Prop where
  gc : W.cell? ⟨gb, 0, none⟩ = some (.pointer (some ⟨G, 0, none⟩))
  n0 : W.cell? ⟨nb, 0, none⟩ = some (.int .i64 slot)
  n1 : W.cell? ⟨nb, 1, none⟩ = some (.slice B b.length cb)
  g0 : W.cell? ⟨G, 0, none⟩ = some (.slice A0 s.lim.length c0)
  g1 : W.cell? ⟨G, 1, none⟩ = some (.slice A1 s.start.length c1)
  g2 : W.cell? ⟨G, 2, none⟩ = some (.slice A2 s.modes.length c2)
  g3 : W.cell? ⟨G, 3, none⟩ = some (.slice A3 s.loads.length c3)
  sys : SysAt W s A0 A1 A2 A3 c0 c1 c2 c3
  box : Kd.C k48 W B b.length b
theorem Seen.below {W W1 : World} {G gb nb : Nat} {s : Sys} {A0 A1 A2 A3 : Option Addr} {c0 c1 c2 c3 : Nat} {slot : Nat} {B : Option Addr} {cb : Nat} {b : List S48} (h : Seen W G gb nb s A0 A1 A2 A3 c0 c1 c2 c3 slot B cb b) (hb : Below W.heap.size W W1) :
    Seen W1 G gb nb s A0 A1 A2 A3 c0 c1 c2 c3 slot B cb b :=
  ⟨pw_cell_below hb h.gc, pw_cell_below hb h.n0, pw_cell_below hb h.n1, pw_cell_below hb h.g0, pw_cell_below hb h.g1, pw_cell_below hb h.g2, pw_cell_below hb h.g3, h.sys.below hb, Kd.C_below h.box hb⟩

set_option maxRecDepth 100000 in
set_option maxHeartbeats 4000000 in
theorem ways_seq (G gb nb : Nat) (s : Sys) (A0 A1 A2 A3 : Option Addr) (c0 c1 c2 c3 : Nat) (slot : Nat) (B : Option Addr) (cb : Nat) (b : List S48) (w : World) (hok : Ok s) (hl : b.length = s.lim.length)
    (Cl : World → Prop) (hcl : ∀ W, Cl W → Seen W G gb nb s A0 A1 A2 A3 c0 c1 c2 c3 slot B cb b) (hgr : ∀ W W', Cl W → Below W.heap.size W W' → Cl W') (h : Cl w) :
    SeqV Try.prog 56 #[.pointer (some ⟨nb, 0, none⟩), .pointer (some ⟨gb, 0, none⟩)] encW (WayIs s slot b w.heap.size) (fun X Y => X.heap.size ≤ Y.heap.size ∧ (Cl X → Cl Y))
      (fun xs => xs.map (fun x => (x.k, x.b)) = waysL s slot b) (fun xs => xs.map (fun x => (x.k, x.b)) <+: waysL s slot b) w := by
  intro l J Jx W hW hJ hJx hY h0
  refine callsIn_wide.2 ?_
  have hC := hgr _ _ h (hW.mono (Nat.le_refl _))
  have HC := Aside0.mk hC
  have hS := hcl _ hC
  have HCL := Aside0.mk hcl
  have HGR := Aside0.mk hgr
  clear hcl hgr hC
  obtain ⟨gc, n0, n1, g0, g1, g2, g3, _, _⟩ := hS
  have hlen := hok.d48
  have hm8 := hok.m8
  have HL := Aside0.mk hl
  have HOK := Aside0.mk hok
  clear h hl hok
  rcases Nat.lt_or_ge slot s.loads.length with hlt | hge
  · obtain ⟨load, hload⟩ : ∃ load, s.loads[slot]? = some load := ⟨_, List.getElem?_eq_getElem hlt⟩
    have hw : waysL s slot b = waysTo s load b s.modes.length := by simp only [waysL, hload]
    rw [hw]
    have HLOAD := Aside0.mk hload
    have HW := Aside0.mk hw
    clear hload hw
    have z1 : ¬ (s.loads.length : Int) ≤ (slot : Int) := by omega
    go_enter Try.func56, Try.ntmps56
    go_wp2_with fail
    go_quiet (fail)
    go_wp2_with fail
    obtain ⟨W0, hW0⟩ : ∃ W0, W0 = W.drewN nq := ⟨_, rfl⟩
    have HC0 := Aside0.mk (show Cl W0 by rw [hW0]; exact HGR.out _ _ HC.out (pw_below_drewN (Below.refl _ _) nq))
    have HJ0 := Aside0.mk (show J [] W0 by rw [hW0]; exact hJ [] W _ none h0 (grown_of_below (pw_below_drewN (Below.refl _ _) nq) none) (fun r e => by cases e))
    have HN0 := Aside0.mk (show w.heap.size ≤ W0.heap.size by rw [hW0]; exact hW.size)
    rw [← hW0]
    have hJ' := Aside0.mk hJ
    have HY := Aside0.mk hY
    clear hW0 gc n0 n1 g0 g1 g2 g3 HC hW hJ hJx hY h0
    have hd : decide (s.loads.length ≤ slot) = false := by rw [decide_eq_false_iff_not]; omega
    rw [hd]
    clear hd
    go_loopg [21] s.modes.length (fun gg s21 wr => ∃ (k : Nat) (pre : List Way), k ≤ s.modes.length ∧ s.modes.length - k ≤ gg ∧ s21 = .int .i64 k ∧ Aside0 (pre.map (fun x => (x.k, x.b)) = waysTo s load b k) ∧ Aside0 (J pre wr) ∧ Aside0 (Cl wr) ∧ Aside0 (w.heap.size ≤ wr.heap.size))
    case atStart => exact ⟨0, [], by omega, by omega, rfl, ⟨rfl⟩, HJ0, HC0, HN0⟩
    case round =>
      clear HJ0 HC0 HN0
      obtain ⟨k, pre, hk, hgk, rfl, HP, HJ, HC, HN⟩ := hrel
      have HS := Aside0.mk (HCL.out _ HC.out)
      by_cases hlt2 : k < s.modes.length
      · have y1 : (k : Int) < (s.modes.length : Int) := by omega
        obtain ⟨gc, n0, n1, g0, g1, g2, g3, _, _⟩ := HS.out
        go_wp2_with fail
        go_still_tail 9, (by kernel_rfl)
        change wpList _ _ _ _ _ wr.drew
        obtain ⟨m, hm⟩ : ∃ m, s.modes[k]? = some m := ⟨_, List.getElem?_eq_getElem hlt2⟩
        have hl := HL.out
        have hok := HOK.out
        have hmo := hok.mode hm
        have hll := hok.load HLOAD.out
        have hwo : wayOf s load b k = if insideB s.lim (advL m load b) then some (k, advL m load b) else none := by simp only [wayOf, hm]
        have HWO := Aside0.mk hwo
        have hal := advL_len m load b (by rw [hmo.len, hl]) (by rw [hll, hl])
        have HADV := Aside0.mk (advance_calls s A0 A1 A2 A3 c0 c1 c2 c3 slot k B cb b wr.drew (HS.out.sys.below (below_drew1 (Below.refl _ _))) (Kd.C_below HS.out.box (below_drew1 (Below.refl _ _))) load HLOAD.out m hm (by rw [hl]; exact hok.n3) (by rw [hmo.len, hl]) (by rw [hll, hl]) (by rw [hl]; exact hmo.inn))
        have HAL := Aside0.mk hal
        clear hm hmo hll hwo hl hok hal
        go_wp2_with fail
        refine HADV.out.mono ?_
        rintro e w1 ⟨g, rfl, hg, hblk, hb1⟩
        clear HADV
        have HB1 := Aside0.mk (below_step (below_drew1 (Below.refl _ _)) hb1)
        have HS1 := Aside0.mk (HS.out.below HB1.out)
        have HG := Aside0.mk hg
        have HBLK := Aside0.mk hblk
        clear hblk hb1 hg gc n0 n1 g0 g1 g2 g3
        obtain ⟨gc, n0, n1, g0, g1, g2, g3, _, _⟩ := HS1.out
        go_upto_region 5 with (fail)
        refine (wpIn_wide (n := 1)).1 ?_
        gi_wp2_with fail
        have hins := inside_calls s A0 A1 A2 A3 c0 c1 c2 c3 (some ⟨g, 0, none⟩) b.length (advL m load b) w1 HS1.out.sys (blk_C48 HBLK.out (by rw [HAL.out, HL.out]; have := HOK.out.n3; omega)) (by rw [HAL.out, HL.out]; exact Nat.le_refl _)
        rw [HAL.out] at hins
        refine ⟨trivial, callsIn_wide.2 (hins.mono ?_)⟩
        clear hins
        rintro e w2 ⟨rfl, hb2⟩
        have HB2 := Aside0.mk (below_step HB1.out hb2)
        have HC2 := Aside0.mk (HGR.out _ _ HC.out HB2.out)
        have HBLK2 := Aside0.mk (pw_blk_below hb2 HBLK.out)
        clear hb2
        cases hq : insideB s.lim (advL m load b) with
        | false =>
          have HP1 := Aside0.mk (show pre.map (fun x => (x.k, x.b)) = waysTo s load b (k + 1) by rw [waysTo_succ, HWO.out, hq, HP.out]; simp)
          have HJ1 := Aside0.mk (hJ'.out pre wr w2 none HJ.out (grown_of_below HB2.out none) (fun r e => by cases e))
          clear HP HJ HS
          gi_wp2_with fail
          refine ⟨fun _ _ => trivial, ?_⟩
          gi_wp2_with fail
          go_wp2_with fail
          go_roundg (s.modes.length - (k + 1))
          case measure => omega
          case rel => exact ⟨k + 1, pre, by omega, by omega, by go_num, HP1, HJ1, HC2, ⟨by have := HB2.out.size; have := HN.out; omega⟩⟩
        | true =>
          have HP1 := Aside0.mk (show (pre ++ [(⟨k, g, advL m load b⟩ : Way)]).map (fun (x : Way) => (x.k, x.b)) = waysTo s load b (k + 1) by rw [waysTo_succ, HWO.out, hq, List.map_append, HP.out]; rfl)
          have HIN := Aside0.mk (waysTo_pre s load b (k + 1) s.modes.length (by omega))
          have HJ1 := hJ'.out pre wr w2 none HJ.out (grown_of_below HB2.out none) (fun r e => by cases e)
          obtain ⟨fn, tmps, assign, body, hy, hR⟩ := HY.out pre ⟨k, g, advL m load b⟩ w2 HJ1 ⟨(by rw [HW.out]; exact HIN.out.subset (by rw [← HP1.out]; simp)), (by have h1 := HN.out; have h2 : wr.heap.size ≤ g := HG.out; exact Nat.le_trans h1 h2), HBLK2.out⟩
          dsimp only [encW] at hy
          rw [HAL.out] at hy
          have HR := Aside0.mk hR
          clear hR
          gi_wp2_with fail
          refine HR.out.mono ?_
          rintro e w3 (⟨rfl, hj3, hk3⟩ | ⟨rfl, hx3⟩)
          · have HJ3 := Aside0.mk hj3
            have HC3 := Aside0.mk (hk3.2 HC2.out)
            have HN3 := Aside0.mk (show w.heap.size ≤ w3.heap.size by have := HB2.out.size; have := HN.out; have := hk3.1; omega)
            clear hj3 hk3 HR hy HJ HP HS HJ1
            gi_wp2_with fail
            go_wp2_with fail
            go_roundg (s.modes.length - (k + 1))
            case measure => omega
            case rel => exact ⟨k + 1, _, by omega, by omega, by go_num, HP1, HJ3, HC3, HN3⟩
          · have HX3 := Aside0.mk hx3
            clear hx3 HR hy HJ HP HS HJ1
            gi_wp2_with fail
            go_wp2_with fail
            refine bodyPost_ret (results_none rfl _ _ _) rfl ?_
            exact ⟨⟨_, rfl⟩, .inr ⟨_, by rw [HP1.out]; exact HIN.out, HX3.out⟩⟩
      · have y1 : ¬ (k : Int) < (s.modes.length : Int) := by omega
        obtain rfl : k = s.modes.length := by omega
        go_wp2_with fail
        go_end0
        exact ⟨⟨_, rfl⟩, .inl ⟨pre, HP.out, HJ.out⟩⟩
  · have hw : waysL s slot b = [] := by simp only [waysL, List.getElem?_eq_none hge]
    rw [hw]
    have z1 : (s.loads.length : Int) ≤ (slot : Int) := by omega
    go_enter Try.func56, Try.ntmps56
    go_wp2_with fail
    go_quiet (fail)
    go_wp2_with fail
    refine bodyPost_ret (results_none rfl _ _ _) rfl ?_
    exact ⟨⟨_, rfl⟩, .inl ⟨[], rfl, hJ [] W _ none h0 (grown_of_below (pw_below_drewN (Below.refl _ _) nq) none) (fun r e => by cases e)⟩⟩
end Go.Proofs.Ytppdckjgdamlnaa

namespace Go.Proofs.Ytppdckjgdamlnaa
open Go.RowKit Go.Sort Go.Proofs.YtppdckjgdamlnaaW.PrintWords Go.Proofs.YtppdckjgdamlnaaW.PrintLast Go.Proofs.YtppdckjgdamlnaaW.PrintMore Q Go.Shelf
attribute [local go_sem] Oper.semAt_some

/-- the key of a node -/
def keyN (x : S31) : Int × List S48 := (x.f0, x.f1)
/-- what the form of a node must be -/
def formB (s : Sys) (x : S31) : Bool := decide (0 ≤ x.f0) && decide (x.f0 ≤ s.loads.length) && decide (x.f1.length = s.lim.length) && decide (0 ≤ x.f2) && decide (x.f2 ≤ 1125899906842624)
/-- a way whose node is not there, or promises too little -/
def wayBad (s : Sys) (ns : List S31) (x : S31) (q : Nat × List S48) : Bool :=
  match keyAt (ns.map keyN) (x.f0 + 1, q.2) with
  | none => true
  | some j => decide ((ns.getD j z31).f2 < x.f2 - costOf s q.1)
/-- a node that breaks its word -/
def nodeBad (s : Sys) (ns : List S31) (x : S31) : Bool :=
  (decide (x.f0 = s.loads.length) && !decide (x.f2 = 0)) || (insideB s.lim x.f1 && (waysL s x.f0.toNat x.f1).any (wayBad s ns x))

/-- the rest of a sequence -/
def rights : Nat → Code → Code
  | 0, c => c
  | n + 1, .seq _ b => rights n b
  | _, c => c
noncomputable def provTail : Code := rights 8 (Try.f12.body.getD .skip)

/-- of the blocks below n₀ one alone may have turned -/
structure Turned (n₀ r : Nat) (W W' : World) : Prop where
  os : W'.os = W.os
  tape : W'.tape = W.tape
  output : W'.output = W.output
  size : W.heap.size ≤ W'.heap.size
  block : ∀ k, k < n₀ → k ≠ r → W'.heap[k]? = W.heap[k]?
theorem Turned.of_below {n₀ r : Nat} {W W' : World} (h : Below n₀ W W') : Turned n₀ r W W' := ⟨h.os, h.tape, h.output, h.size, fun k hk _ => h.block k hk⟩
theorem Turned.then_ {n₀ r : Nat} {W W1 W2 : World} (h : Turned n₀ r W W1) (k : Turned n₀ r W1 W2) : Turned n₀ r W W2 := ⟨k.os.trans h.os, k.tape.trans h.tape, k.output.trans h.output, Nat.le_trans h.size k.size, fun i hi hr => (k.block i hi hr).trans (h.block i hi hr)⟩
theorem Turned.set {n₀ r : Nat} {W : World} {v : Value} : Turned n₀ r W (W.setCell ⟨r, 0, none⟩ v) := ⟨rfl, rfl, rfl, by simp [World.setCell], fun k _ hr => Below.heap_setCell W _ _ k hr⟩
theorem Turned.grown {n₀ r : Nat} {W W1 W2 : World} {row : Option Nat} (h : Turned n₀ r W W1) (hg : W1.grownBy W2 row) (hr : ∀ k, row = some k → n₀ ≤ k) (hn : n₀ ≤ W.heap.size) : Turned n₀ r W W2 :=
  ⟨hg.os.trans h.os, hg.tape.trans h.tape, hg.output.trans h.output, Nat.le_trans h.size hg.size, fun i hi hne => (hg.block i (by have := h.size; omega) (fun e => by have := hr i e.symm; omega)).trans (h.block i hi hne)⟩
theorem Turned.less {n₀ n₁ r : Nat} {W W' : World} (h : Turned n₀ r W W') (hn : n₁ ≤ n₀) : Turned n₁ r W W' := ⟨h.os, h.tape, h.output, h.size, fun k hk => h.block k (by omega)⟩

/-- how the function is left -/
def Left (n₀ r6 : Nat) (W0 : World) (v : Int) (a : Act) (W : World) : Prop :=
  a.tmps[6]? = some (.pointer (some ⟨r6, 0, none⟩)) ∧ Marks n₀ W a.defers ∧ W.heap[r6]? = some (.cells #[.int .i64 v] 32 (0, 0)) ∧ Turned n₀ r6 W0 W
theorem take_any {α : Type} {p : α → Bool} {xs : List α} {i : Nat} {x : α} (h : xs[i]? = some x) : (xs.take (i + 1)).any p = ((xs.take i).any p || p x) := by
  rw [List.take_add_one, h, List.any_append]; simp
theorem waysTo_mem {s : Sys} {load b : List S48} {n : Nat} {q : Nat × List S48} (h : q ∈ waysTo s load b n) : ∃ m, s.modes[q.1]? = some m ∧ q.2 = advL m load b ∧ insideB s.lim q.2 = true := by
  obtain ⟨k, _, hk⟩ := List.mem_filterMap.1 h
  unfold wayOf at hk
  split at hk
  · cases hk
  · rename_i m hm
    split at hk
    · rename_i hi
      cases hk
      exact ⟨m, hm, rfl, hi⟩
    · cases hk
theorem way_spec {s : Sys} {slot : Nat} {b : List S48} {q : Nat × List S48} (hok : Ok s) (hl : b.length = s.lim.length) (h : q ∈ waysL s slot b) : q.2.length = s.lim.length ∧ ∃ m, s.modes[q.1]? = some m := by
  unfold waysL at h
  split at h
  · cases h
  · rename_i load hload
    obtain ⟨m, hm, hq, _⟩ := waysTo_mem h
    exact ⟨by rw [hq, advL_len _ _ _ (by rw [(hok.mode hm).len, hl]) (by rw [hok.load hload, hl]), hl], m, hm⟩
theorem keys_len {s : Sys} {ns : List S31} (hf : ∀ x ∈ ns, formB s x = true) (h3 : s.lim.length ≤ 3) : ∀ q ∈ ns.map keyN, q.2.length ≤ 3 := by
  intro q hq
  obtain ⟨x, hx, rfl⟩ := List.mem_map.1 hq
  have := hf x hx
  simp only [formB, Bool.and_eq_true, decide_eq_true_eq] at this
  show x.f1.length ≤ 3
  omega
theorem keyAt_lt {ks : List (Int × List S48)} {k : Int × List S48} {j : Nat} (h : keyAt ks k = some j) : j < ks.length := by
  unfold keyAt at h
  obtain ⟨h1, _⟩ := List.findIdx?_eq_some_iff_getElem.1 h
  exact h1

set_option maxRecDepth 1000000 in
set_option maxHeartbeats 8000000 in
theorem tail_wp (s : Sys) (A0 A1_ A2 A3 : Option Addr) (c0_ c1_ c2_ c3_ : Nat) (N : Option Addr) (cn : Nat) (ns : List S31) (sb nb r6 g8 G M : Nat) (z : Int) (nv : Value) (W0 : World) (hok : Ok s) (hlen : ns.length ≤ 5000)
    (hf : ∀ x ∈ ns, formB s x = true)
    (hsb : W0.heap[sb]? = some (.cells #[.slice A0 s.lim.length c0_, .slice A1_ s.start.length c1_, .slice A2 s.modes.length c2_, .slice A3 s.loads.length c3_] 26 (0, 0)))
    (hnb : W0.heap[nb]? = some (.cells #[.slice N ns.length cn] 27 (0, 0)))
    (hr6 : W0.heap[r6]? = some (.cells #[.int .i64 z] 32 (0, 0)))
    (hg8 : W0.heap[g8]? = some (.cells #[.pointer (some ⟨G, 0, none⟩)] 61 (0, 0)))
    (hG : W0.heap[G]? = some (.cells #[.slice A0 s.lim.length c0_, .slice A1_ s.start.length c1_, .slice A2 s.modes.length c2_, .slice A3 s.loads.length c3_, nv, .map (some M)] 64 (0, 0)))
    (hM : MapIs W0 M (ns.map keyN)) (hsys : SysAt W0 s A0 A1_ A2 A3 c0_ c1_ c2_ c3_) (hN : Kd.C k31 W0 N ns.length ns)
    (c0 c1 c2 c4 c7 c9 c10 c11 c12 c13 c15 c16 c17 c18 c19 c20 c21 c22 c23 c24 c25 c26 c27 c28 c29 c30 c31 c32 c33 c34 c35 c36 c37 c38 c39 c40 c41 c42 c43 c44 c45 c46 c47 c48 c49 c50 c51 c52 c53 c54 c55 c56 c57 c58 c59 c60 c61 c62 c63 c64 c65 c66 c67 c68 c69 c70 c71 c72 c73 c74 c75 c76 c77 c78 c79 c80 c81 c82 c83 c84 c85 c86 c87 c88 c89 c90 c91 c92 c93 c94 c95 c96 c97 c98 c99 c100 c126 c127 c128 c129 c130 c131 c132 c133 c134 c135 c136 c137 c138 c139 c140 c141 c142 c143 c144 c145 c146 c147 c148 c149 c150 c151 c152 c153 c154 c155 c156 c157 c158 c159 : Value) (u14 u101 u102 u103 u104 u105 u106 u107 u108 u109 u110 u111 u112 u113 u114 u115 u116 u117 u118 u119 u120 u121 u122 u123 u124 u125 u160 : Value) (Q0 : Exit → Act → World → Prop)
    (hret : ∀ a' W', Left W0.heap.size r6 W0 (if ns.any (nodeBad s ns) then 19 else 0) a' W' → Q0 .ret a' W') :
    Code.wp Try.prog provTail Q0 ⟨#[c0, c1, c2, .pointer (some ⟨sb, 0, none⟩), c4, .pointer (some ⟨nb, 0, none⟩), .pointer (some ⟨r6, 0, none⟩), c7, .pointer (some ⟨g8, 0, none⟩), c9, c10, c11, c12, c13, u14, c15, c16, c17, c18, c19, c20, c21, c22, c23, c24, c25, c26, c27, c28, c29, c30, c31, c32, c33, c34, c35, c36, c37, c38, c39, c40, c41, c42, c43, c44, c45, c46, c47, c48, c49, c50, c51, c52, c53, c54, c55, c56, c57, c58, c59, c60, c61, c62, c63, c64, c65, c66, c67, c68, c69, c70, c71, c72, c73, c74, c75, c76, c77, c78, c79, c80, c81, c82, c83, c84, c85, c86, c87, c88, c89, c90, c91, c92, c93, c94, c95, c96, c97, c98, c99, c100, u101, u102, u103, u104, u105, u106, u107, u108, u109, u110, u111, u112, u113, u114, u115, u116, u117, u118, u119, u120, u121, u122, u123, u124, u125, c126, c127, c128, c129, c130, c131, c132, c133, c134, c135, c136, c137, c138, c139, c140, c141, c142, c143, c144, c145, c146, c147, c148, c149, c150, c151, c152, c153, c154, c155, c156, c157, c158, c159, u160], []⟩ W0 := by
  conv => arg 2; whnf
  have HF := Aside0.mk hf
  have HSB := Aside0.mk hsb
  have HNB := Aside0.mk hnb
  have HR6 := Aside0.mk hr6
  have HG8 := Aside0.mk hg8
  have HG := Aside0.mk hG
  have HM := Aside0.mk hM
  have HSYS := Aside0.mk hsys
  have HN := Aside0.mk hN
  have HOK := Aside0.mk hok
  have HRET := Aside0.mk hret
  have nb0 := blk_cell hnb 0
  simp at nb0
  clear hf hsb hnb hr6 hg8 hG hM hsys hN hok hret
  go_wp2_with fail
  clear nb0
  refine wp_loop_ghost_k (fun gg a' wr => ∃ ds : List Deferred, ∃ u14 u103 u104 u105 u106 u107 u108 u109 u110 u111 u112 u113 u114 u115 u116 u117 u118 u119 u120 u121 u122 u123 u124 u125 u160 : Value, (∃ i : Nat, i ≤ ns.length ∧ ns.length - i ≤ gg ∧ u103 = .int .i64 i ∧ Aside0 (Below W0.heap.size W0 wr) ∧ Aside0 (Marks W0.heap.size wr ds) ∧ Aside0 ((ns.take i).any (nodeBad s ns) = false)) ∧ a' = ⟨#[c0, c1, c2, .pointer (some ⟨sb, 0, none⟩), c4, .pointer (some ⟨nb, 0, none⟩), .pointer (some ⟨r6, 0, none⟩), c7, .pointer (some ⟨g8, 0, none⟩), c9, c10, c11, c12, c13, u14, c15, c16, c17, c18, c19, c20, c21, c22, c23, c24, c25, c26, c27, c28, c29, c30, c31, c32, c33, c34, c35, c36, c37, c38, c39, c40, c41, c42, c43, c44, c45, c46, c47, c48, c49, c50, c51, c52, c53, c54, c55, c56, c57, c58, c59, c60, c61, c62, c63, c64, c65, c66, c67, c68, c69, c70, c71, c72, c73, c74, c75, c76, c77, c78, c79, c80, c81, c82, c83, c84, c85, c86, c87, c88, c89, c90, c91, c92, c93, c94, c95, c96, c97, c98, c99, c100, .slice N ns.length cn, .int .i64 ns.length, u103, u104, u105, u106, u107, u108, u109, u110, u111, u112, u113, u114, u115, u116, u117, u118, u119, u120, u121, u122, u123, u124, u125, c126, c127, c128, c129, c130, c131, c132, c133, c134, c135, c136, c137, c138, c139, c140, c141, c142, c143, c144, c145, c146, c147, c148, c149, c150, c151, c152, c153, c154, c155, c156, c157, c158, c159, u160], ds⟩) ns.length ?_ ?_
  · exact ⟨[], _, _, _, _, _, _, _, _, _, _, _, _, _, _, _, _, _, _, _, _, _, _, _, _, _, ⟨0, by omega, by omega, rfl, ⟨Below.refl _ _⟩, ⟨trivial⟩, ⟨by simp⟩⟩, rfl⟩
  · intro gk _ wr hinv
    obtain ⟨ds, hinv⟩ := hinv
    obtain ⟨u14, hinv⟩ := hinv
    obtain ⟨u103, hinv⟩ := hinv
    obtain ⟨u104, hinv⟩ := hinv
    obtain ⟨u105, hinv⟩ := hinv
    obtain ⟨u106, hinv⟩ := hinv
    obtain ⟨u107, hinv⟩ := hinv
    obtain ⟨u108, hinv⟩ := hinv
    obtain ⟨u109, hinv⟩ := hinv
    obtain ⟨u110, hinv⟩ := hinv
    obtain ⟨u111, hinv⟩ := hinv
    obtain ⟨u112, hinv⟩ := hinv
    obtain ⟨u113, hinv⟩ := hinv
    obtain ⟨u114, hinv⟩ := hinv
    obtain ⟨u115, hinv⟩ := hinv
    obtain ⟨u116, hinv⟩ := hinv
    obtain ⟨u117, hinv⟩ := hinv
    obtain ⟨u118, hinv⟩ := hinv
    obtain ⟨u119, hinv⟩ := hinv
    obtain ⟨u120, hinv⟩ := hinv
    obtain ⟨u121, hinv⟩ := hinv
    obtain ⟨u122, hinv⟩ := hinv
    obtain ⟨u123, hinv⟩ := hinv
    obtain ⟨u124, hinv⟩ := hinv
    obtain ⟨u125, hinv⟩ := hinv
    obtain ⟨u160, hinv⟩ := hinv
    obtain ⟨hrel, ha⟩ := hinv
    subst ha
    intro _ _ _ _
    obtain ⟨i, hi, hgi, rfl, HB, HK, HA⟩ := hrel
    dsimp only
    by_cases hlt : i < ns.length
    · have y1 : (i : Int) < (ns.length : Int) := by omega
      obtain ⟨ad, x, A1, cx, rfl, E, x0, x1, x2, LC, BX⟩ := at31 (Kd.C_below HN.out HB.out) i hlt
      have hform := HF.out x (List.mem_of_getElem? E.out)
      obtain ⟨f0, bx, vx⟩ := x
      simp only [formB, Bool.and_eq_true, decide_eq_true_eq] at hform
      obtain ⟨⟨⟨⟨p0, p1⟩, p2⟩, p3⟩, p4⟩ := hform
      obtain ⟨sl, rfl⟩ := Int.eq_ofNat_of_zero_le p0
      have P2 := Aside0.mk p2
      clear p2
      simp only at x0 x1 x2 LC BX
      have hsb := pw_blk_below HB.out HSB.out
      have s3 := blk_cell hsb 3
      simp at s3
      clear hsb
      go_upto_region 22 with (fail)
      obtain ⟨W1, hW1⟩ : ∃ W1, W1 = wr.alloc (.cells #[.int .i64 sl, .slice A1 bx.length cx, .int .i64 vx] 31) := ⟨_, rfl⟩
      have HB1 := Aside0.mk (show Below wr.heap.size wr W1 by rw [hW1]; exact below_alloc (Below.refl _ _) _)
      have K14 := Aside0.mk (show W1.heap[wr.heap.size]? = some (.cells #[.int .i64 sl, .slice A1 bx.length cx, .int .i64 vx] 31 (0, 0)) by rw [hW1]; exact heap_alloc_new _ _)
      have HBX := Aside0.mk (show Kd.C k48 W1 A1 bx.length bx by rw [hW1]; exact Kd.C_alloc BX.out _)
      rw [← hW1]
      clear hW1 x0 x1 x2 BX
      have t0 := blk_cell K14.out 0
      have t1 := blk_cell K14.out 1
      have t2 := blk_cell K14.out 2
      simp at t0 t1 t2
      have s3 := pw_cell_below HB1.out s3
      go_cut [117] from 105 to 117 (fun s117 wx => s117 = .bool (decide ((sl : Int) = s.loads.length) && !decide (vx = 0)) ∧ wx = W1)
      case first =>
        by_cases h1 : (sl : Int) = s.loads.length
        · go_wp2_with fail
          go_meet
          exact ⟨by rw [decide_eq_true h1]; by_cases h2 : vx = 0 <;> simp [h2], rfl⟩
        · go_wp2_with fail
          go_meet
          exact ⟨by rw [decide_eq_false h1]; simp, rfl⟩
      case rest =>
        obtain ⟨rfl, rfl⟩ := hcut
        have HBW := Aside0.mk (below_step HB.out HB1.out)
        have hkW : Marks W0.heap.size wc ds := HK.out.step (fun k o hk ho hB => pw_blk_below HB1.out hk)
        have HKW := Aside0.mk hkW
        clear hkW
        have hb6 := pw_blk_below HBW.out HR6.out
        have r0 := blk_cell hb6 0
        have z0 := blk_frozen hb6 0
        simp at r0
        have HB6 := Aside0.mk hb6
        clear hb6
        have hleft : ∀ a' : Act, nodeBad s ns ⟨sl, bx, vx⟩ = true → a'.tmps[6]? = some (.pointer (some ⟨r6, 0, none⟩)) → a'.defers = ds → Left W0.heap.size r6 W0 (if ns.any (nodeBad s ns) then 19 else 0) a' (wc.setCell ⟨r6, 0, none⟩ (.int .i64 19)) := fun a' hbad h6 hd => by
          refine ⟨h6, ?_, ?_, ?_⟩
          · rw [hd]
            exact HKW.out.step (fun k o hk ho hB => (KeepsOthers.setCell _ _ _).same k o hk ho)
          · rw [if_pos (List.any_eq_true.2 ⟨_, List.mem_of_getElem? E.out, hbad⟩)]
            exact blk_set HB6.out 0 _
          · exact (Turned.of_below HBW.out).then_ Turned.set
        have HLEFT := Aside0.mk hleft
        clear hleft
        cases hb1 : (decide ((sl : Int) = s.loads.length) && !decide (vx = 0)) with
        | true =>
          go_wp2_with fail
          exact HRET.out _ _ (HLEFT.out _ (by simp only [nodeBad, hb1, Bool.true_or]) rfl rfl)
        | false =>
          have HBAD1 := Aside0.mk hb1
          have s0 := pw_cell_below HB1.out (by have := blk_cell (pw_blk_below HB.out HSB.out) 0; simpa using this)
          have s1 := pw_cell_below HB1.out (by have := blk_cell (pw_blk_below HB.out HSB.out) 1; simpa using this)
          have s2 := pw_cell_below HB1.out (by have := blk_cell (pw_blk_below HB.out HSB.out) 2; simpa using this)
          have HINS := Aside0.mk (inside_calls s A0 A1_ A2 A3 c0_ c1_ c2_ c3_ A1 cx bx wc (HSYS.out.below HBW.out) HBX.out (by rw [P2.out]; exact Nat.le_refl _))
          clear hb1
          go_wp2_with fail
          refine HINS.out.mono ?_
          rintro e w2 ⟨rfl, hb2⟩
          have HB2 := Aside0.mk (below_step HB1.out hb2)
          have HK2 := Aside0.mk (HKW.out.step (fun k o hk ho hB => pw_blk_below hb2 hk))
          have H2 := Aside0.mk hb2
          clear hb2 HINS HLEFT
          cases hq : insideB s.lim bx with
          | false =>
            have hgood : nodeBad s ns ⟨sl, bx, vx⟩ = false := by simp only [nodeBad, HBAD1.out, hq, Bool.false_or, Bool.false_and]
            have HA2 := Aside0.mk (show (ns.take (i + 1)).any (nodeBad s ns) = false by rw [take_any E.out, HA.out, hgood]; rfl)
            clear HA HBAD1 hgood
            go_wp2_with fail
            go_roundg (ns.length - (i + 1))
            case measure => omega
            case rel => exact ⟨i + 1, by omega, by omega, by go_num, ⟨below_step HB.out HB2.out⟩, HK2, HA2⟩
          | true =>
            have HQ := Aside0.mk hq
            clear hq
            have g0 := pw_cell_below H2.out (pw_cell_below HBW.out (by have := blk_cell HG8.out 0; simpa using this))
            have t0 := pw_cell_below H2.out t0
            have t1 := pw_cell_below H2.out t1
            have t2 := pw_cell_below H2.out t2
            go_wp2_with fail
            refine (ways_calls G w2 sl vx A1 bx.length cx).mono ?_
            rintro e w3 ⟨rfl, hw3⟩
            go_wp2_with fail
            obtain ⟨Wc, hWc⟩ : ∃ Wc, Wc = (w2.alloc (.cells #[.pointer (some ⟨G, 0, none⟩)] 61)).alloc (.cells #[.int .i64 sl, .slice A1 bx.length cx, .int .i64 vx] 31) := ⟨_, rfl⟩
            have q0 : Wc.heap[w2.heap.size]? = some (.cells #[.pointer (some ⟨G, 0, none⟩)] 61 (0, 0)) := by rw [hWc]; exact (two_new _ _ _).1
            have q1 : Wc.heap[w2.heap.size + 1]? = some (.cells #[.int .i64 sl, .slice A1 bx.length cx, .int .i64 vx] 31 (0, 0)) := by rw [hWc]; exact (two_new _ _ _).2
            have hbc : Below w2.heap.size w2 Wc := by rw [hWc]; exact below_alloc (below_alloc (Below.refl _ _) _) _
            rw [← hWc]
            clear hWc g0 t0 t1 t2 s0 s1 s2 s3
            have hb0 := below_step HB.out (below_step HB2.out hbc)
            have hseen : Seen Wc G w2.heap.size (w2.heap.size + 1) s A0 A1_ A2 A3 c0_ c1_ c2_ c3_ sl A1 cx bx := by
              have hgr := pw_blk_below hb0 HG.out
              refine ⟨by have := blk_cell q0 0; simpa using this, by have := blk_cell q1 0; simpa using this, by have := blk_cell q1 1; simpa using this, ?_, ?_, ?_, ?_, HSYS.out.below hb0, Kd.C_below HBX.out (below_step H2.out hbc)⟩
              · have := blk_cell hgr 0; simpa using this
              · have := blk_cell hgr 1; simpa using this
              · have := blk_cell hgr 2; simpa using this
              · have := blk_cell hgr 3; simpa using this
            have HB0 := Aside0.mk hb0
            have HSE := Aside0.mk hseen
            have HKC := Aside0.mk (HK2.out.step (W' := Wc) (fun k o hk ho hB => pw_blk_below hbc hk))
            have K14c := Aside0.mk (pw_blk_below (below_step H2.out hbc) K14.out)
            clear q0 q1 hb0 hseen hbc K14 HK2 HK HKW
            refine (wpIn_wide (n := 2)).1 ?_
            refine wpIn_rangeV (a₁ := fun x => ⟨#[c0, c1, c2, .pointer (some ⟨sb, 0, none⟩), c4, .pointer (some ⟨nb, 0, none⟩), .pointer (some ⟨r6, 0, none⟩), c7, .pointer (some ⟨g8, 0, none⟩), c9, c10, c11, c12, c13, .pointer (some ⟨wr.heap.size, 0, none⟩), .int .i64 x.k, .slice (some ⟨x.g, 0, none⟩) x.b.length x.b.length, c17, c18, c19, c20, c21, c22, c23, c24, c25, c26, c27, c28, c29, c30, c31, c32, c33, c34, c35, c36, c37, c38, c39, c40, c41, c42, c43, c44, c45, c46, c47, c48, c49, c50, c51, c52, c53, c54, c55, c56, c57, c58, c59, c60, c61, c62, c63, c64, c65, c66, c67, c68, c69, c70, c71, c72, c73, c74, c75, c76, c77, c78, c79, c80, c81, c82, c83, c84, c85, c86, c87, c88, c89, c90, c91, c92, c93, c94, c95, c96, c97, c98, c99, c100, .slice (some ad) ns.length cn, .int .i64 ns.length, .int .i64 i, .bool true, u105, u106, u107, u108, u109, u110, u111, u112, u113, u114, u115, u116, .bool false, .agg #[.slice A0 s.lim.length c0_, .slice A1_ s.start.length c1_, .slice A2 s.modes.length c2_, .slice A3 s.loads.length c3_], .pointer (some ⟨wr.heap.size, 1, none⟩), .slice A1 bx.length cx, .bool true, .bool false, .pointer (some ⟨G, 0, none⟩), .agg #[.int .i64 sl, .slice A1 bx.length cx, .int .i64 vx], .func (.func 56) #[] #[.pointer (some ⟨w2.heap.size + 1, 0, none⟩), .pointer (some ⟨w2.heap.size, 0, none⟩)], .int .i64 x.k, .slice (some ⟨x.g, 0, none⟩) x.b.length x.b.length, c128, c129, c130, c131, c132, c133, c134, c135, c136, c137, c138, c139, c140, c141, c142, c143, c144, c145, c146, c147, c148, c149, c150, c151, c152, c153, c154, c155, c156, c157, c158, c159, u160], []⟩) rfl (enters_of Try.func56 (by kernel_rfl) rfl)
              (ways_seq G w2.heap.size (w2.heap.size + 1) s A0 A1_ A2 A3 c0_ c1_ c2_ c3_ sl A1 cx bx Wc HOK.out P2.out (fun W => Below Wc.heap.size Wc W) (fun W h => HSE.out.below h) (fun W W' h h' => below_then h h.size h') (Below.refl _ _))
              (fun h k => ⟨Nat.le_trans h.1 k.1, fun c => k.2 (h.2 c)⟩)
              (fun W l o o' hl h ho => ⟨by simp, fun c => ⟨c.os, c.tape, c.output, by simpa using c.size, fun k hk => (World.putObj_heap_other (by omega)).trans (c.block k hk)⟩⟩)
              (Below.refl _ _) (fun _ => rfl)
              (fun y W W' row hs hg hr => ⟨hs.1, hs.2.1, (hg.block _ (blk_lt hs.2.2) (fun e => by obtain ⟨_, o, ho, hc⟩ := hr _ e.symm; rw [hs.2.2] at ho; cases ho; cases hc)).trans hs.2.2⟩)
              (fun pre W => Below Wc.heap.size Wc W ∧ pre.any (fun y => wayBad s ns ⟨sl, bx, vx⟩ (y.k, y.b)) = false)
              (fun c _ W => c = .ret ∧ Turned Wc.heap.size r6 Wc W ∧ W.heap[r6]? = some (.cells #[.int .i64 19] 32 (0, 0)) ∧ (waysL s sl bx).any (wayBad s ns ⟨sl, bx, vx⟩) = true)
              (OwnFrom.and (ownFrom_below (Nat.le_refl _) (Nat.le_refl _)) (ownFrom_pure _ (fun (pre : List Way) => pre.any (fun y => wayBad s ns ⟨sl, bx, vx⟩ (y.k, y.b)) = false)))
              (fun c p W W' row hs hg hr => ⟨hs.1, hs.2.1.grown hg (fun k hk => (hr k hk).1) (Nat.le_refl _), (hg.block _ (blk_lt hs.2.2.1) (fun e => by obtain ⟨_, o, ho, hc⟩ := hr _ e.symm; rw [hs.2.2.1] at ho; cases ho; cases hc)).trans hs.2.2.1, hs.2.2.2⟩)
              ⟨Below.refl _ _, rfl⟩ ?assign ?body ?done ?stop
            case assign =>
              intro l x W K hK
              dsimp only [encW]
              gi_wp2
              exact hK
            case body =>
              rintro l pre x W ⟨hb, hp⟩ hv
              have hbw := below_step HB0.out hb
              have hgr := pw_blk_below hbw HG.out
              have hk14 := pw_blk_below hb K14c.out
              have c1 := fun d os => cell_regrown (w := W) (a := ⟨g8, 0, none⟩) (v := .pointer (some ⟨G, 0, none⟩)) (by have := blk_cell (pw_blk_below hbw HG8.out) 0; simpa using this) d os
              have c2 := fun d os => cell_regrown (w := W) (a := ⟨G, 5, none⟩) (v := .map (some M)) (by have := blk_cell hgr 5; simpa using this) d os
              have c3 := fun d os => cell_regrown (w := W) (a := ⟨wr.heap.size, 0, none⟩) (v := .int .i64 sl) (by have := blk_cell hk14 0; simpa using this) d os
              have hwl := way_spec HOK.out P2.out hv.1
              have y2 : IntKind.i64.wrap ((sl : Int) + 1) = (sl : Int) + 1 := IntWalk.i64_in _ (by have := HOK.out.d48; omega)
              have HKEY := Aside0.mk (fun d os => Calls.regrown_of (keyOf_calls ((sl : Int) + 1) (some ⟨x.g, 0, none⟩) x.b.length x.b (grow (redrawn W d) os) (Kd.C_below (blk_C48 hv.2.2 (by rw [hwl.1]; have := HOK.out.n3; omega)) (below_regrown W d os)) (by rw [hwl.1]; exact HOK.out.n3) (by rw [hwl.1]; exact HOK.out.n1)))
              have HBW2 := Aside0.mk hbw
              have HMW := Aside0.mk (HM.out.below hbw)
              have HV := Aside0.mk hv
              have HWL := Aside0.mk hwl
              have HPRE := Aside0.mk hp
              have HBC := Aside0.mk hb
              have K14w := Aside0.mk hk14
              clear hv hwl hp hb hbw hgr hk14
              gi_wp2_with fail
              cases hkey : keyAt (ns.map keyN) ((sl : Int) + 1, x.b) with
              | none =>
                have hlk := fun d os => lookup_run (grow (redrawn W d) os) M (ns.map keyN) ((sl : Int) + 1, x.b) (by rw [HWL.out.1]; exact HOK.out.n3) (keys_len HF.out HOK.out.n3) (HMW.out.below (below_regrown W d os))
                rw [hkey] at hlk
                have HKY := Aside0.mk hkey
                clear hkey
                refine round_quiet (by kernel_rfl) (by kernel_rfl) (by kernel_rfl) ?_
                repeat (go_big_quiet_step (exact HKEY.out _ _))
                refine wpQuiet_nil ?_
                rintro w4 ⟨p4_, hw4⟩
                have HB4 := Aside0.mk (below_regrown W p4_.d p4_.os)
                rw [← hw4] at HB4
                clear hw4 hlk c1 c2 c3 y2 HKEY HMW
                gi_wp2_with fail
                refine round_quiet (by kernel_rfl) (by kernel_rfl) (by kernel_rfl) ?_
                repeat (go_big_quiet_step (fail))
                refine wpQuiet_nil ?_
                rintro w5 ⟨p5_, hw5⟩
                have HB5 := Aside0.mk (below_regrown w4 p5_.d p5_.os)
                rw [← hw5] at HB5
                clear hw5
                have HB6 := Aside0.mk (below_step HBC.out (below_step HB4.out HB5.out))
                have HBAD := Aside0.mk (show (waysL s sl bx).any (wayBad s ns ⟨sl, bx, vx⟩) = true from List.any_eq_true.2 ⟨_, HV.out.1, by simp only [wayBad, HKY.out]⟩)
                have hb6 := pw_blk_below (below_step HB0.out HB6.out) HR6.out
                have r0 := blk_cell hb6 0
                have z0 := blk_frozen hb6 0
                simp at r0
                have HR := Aside0.mk hb6
                clear hb6
                gi_wp2_with fail
                refine ⟨⟨?_, fun k o hB hk ho => (KeepsOthers.setCell _ _ _).same k o (pw_blk_below (below_step HB4.out HB5.out) hk) ho⟩, rfl, (Turned.of_below HB6.out).then_ Turned.set, blk_set HR.out 0 _, HBAD.out⟩
                have := (below_step HB4.out HB5.out).size
                simpa [World.setCell] using this
              | some j =>
                have hlk := fun d os => lookup_run (grow (redrawn W d) os) M (ns.map keyN) ((sl : Int) + 1, x.b) (by rw [HWL.out.1]; exact HOK.out.n3) (keys_len HF.out HOK.out.n3) (HMW.out.below (below_regrown W d os))
                rw [hkey] at hlk
                have HKY := Aside0.mk hkey
                have HJ := Aside0.mk (keyAt_lt hkey)
                clear hkey
                refine round_quiet (by kernel_rfl) (by kernel_rfl) (by kernel_rfl) ?_
                repeat (go_big_quiet_step (exact HKEY.out _ _))
                refine wpQuiet_nil ?_
                rintro w4 ⟨p4_, hw4⟩
                have HB4 := Aside0.mk (below_regrown W p4_.d p4_.os)
                rw [← hw4] at HB4
                clear hw4 hlk c1 c2 c3 y2 HKEY HMW
                gi_wp2_with fail
                obtain ⟨m, hm⟩ := HWL.out.2
                have hbw := below_step HB0.out (below_step HBC.out HB4.out)
                have hj : j < ns.length := by have := HJ.out; simpa using this
                obtain ⟨ad1, nd, A5, c5, e5, E5, _, _, u2, _, _⟩ := at31 (Kd.C_below HN.out hbw) j hj
                cases e5
                obtain ⟨adm, m', Am, cm, Af, cf, hA2, EM, v0, _⟩ := at53 (Kd.C_below HSYS.out.r2 hbw) x.k (List.getElem?_eq_some_iff.1 hm).1
                cases hm.symm.trans EM.out
                have hmo := HOK.out.mode hm
                have hnd := HF.out nd (List.mem_of_getElem? E5.out)
                have hco : costOf s x.k = m.f0 := by simp only [costOf, Int.toNat_natCast, List.getD_eq_getElem?_getD, hm]; rfl
                have d1 := fun d os => cell_regrown (w := w4) (a := ⟨nb, 0, none⟩) (v := .slice (some ad) ns.length cn) (by have := blk_cell (pw_blk_below hbw HNB.out) 0; simpa using this) d os
                have d2 := fun d os => cell_regrown u2 d os
                have d3 := fun d os => cell_regrown (w := w4) (a := ⟨wr.heap.size, 2, none⟩) (v := .int .i64 vx) (by have := blk_cell (pw_blk_below HB4.out K14w.out) 2; simpa using this) d os
                have d4 := fun d os => cell_regrown (w := w4) (a := ⟨sb, 2, none⟩) (v := .slice A2 s.modes.length c2_) (by have := blk_cell (pw_blk_below hbw HSB.out) 2; simpa using this) d os
                have d5 := fun d os => cell_regrown v0 d os
                have y3 : (j : Int) < (ns.length : Int) := by omega
                have y4 : (x.k : Int) < (s.modes.length : Int) := by have := (List.getElem?_eq_some_iff.1 hm).1; omega
                have y5 : IntKind.i64.wrap (vx - m.f0) = vx - m.f0 := IntWalk.i64_in _ (by have := hmo.c0; have := hmo.c1; omega)
                have HCO := Aside0.mk hco
                subst hA2
                clear hm EM hmo hnd hco hbw v0 u2 hj
                refine round_quiet (by kernel_rfl) (by kernel_rfl) (by kernel_rfl) ?_
                repeat (go_big_quiet_step (fail))
                refine wpQuiet_nil ?_
                rintro w5 ⟨p5_, hw5⟩
                have HB5 := Aside0.mk (below_regrown w4 p5_.d p5_.os)
                rw [← hw5] at HB5
                clear hw5
                have hgd : ns.getD j z31 = nd := by rw [List.getD_eq_getElem?_getD, E5.out]; rfl
                by_cases hbd : nd.f2 < vx - m.f0
                · have HB6 := Aside0.mk (below_step HBC.out (below_step HB4.out HB5.out))
                  have HBAD := Aside0.mk (show (waysL s sl bx).any (wayBad s ns ⟨sl, bx, vx⟩) = true from List.any_eq_true.2 ⟨_, HV.out.1, by simp only [wayBad, HKY.out, hgd, HCO.out]; exact decide_eq_true hbd⟩)
                  have hb6 := pw_blk_below (below_step HB0.out HB6.out) HR6.out
                  have r0 := blk_cell hb6 0
                  have z0 := blk_frozen hb6 0
                  simp at r0
                  have HR := Aside0.mk hb6
                  clear hb6 hgd
                  gi_wp2_with fail
                  refine ⟨⟨?_, fun k o hB hk ho => (KeepsOthers.setCell _ _ _).same k o (pw_blk_below (below_step HB4.out HB5.out) hk) ho⟩, rfl, (Turned.of_below HB6.out).then_ Turned.set, blk_set HR.out 0 _, HBAD.out⟩
                  have := (below_step HB4.out HB5.out).size
                  simpa [World.setCell] using this
                · have HGO := Aside0.mk (show (pre ++ [x]).any (fun y => wayBad s ns ⟨sl, bx, vx⟩ (y.k, y.b)) = false by rw [List.any_append, HPRE.out]; simp only [List.any_cons, List.any_nil, Bool.or_false, Bool.false_or, wayBad, HKY.out, hgd, HCO.out]; exact decide_eq_false hbd)
                  clear hgd
                  gi_wp2_with fail
                  have h6 := below_step HB4.out HB5.out
                  exact ⟨⟨h6.size, fun k o hB hk ho => pw_blk_below h6 hk⟩, ⟨h6.size, fun c => below_then c c.size h6⟩, below_then HBC.out HBC.out.size h6, fun y hy => by have := List.any_eq_false.1 HGO.out y hy; simpa using this⟩
            case done =>
              rintro D xs W hD hS ⟨hb, hp⟩ hdf
              go_wp2_with fail
              have hgood : nodeBad s ns ⟨sl, bx, vx⟩ = false := by
                have h2 : (waysL s sl bx).any (wayBad s ns ⟨sl, bx, vx⟩) = false := by rw [← hS, List.any_map]; exact hp
                simp only [nodeBad, HBAD1.out, Int.toNat_natCast, h2, Bool.false_or, Bool.and_false]
              go_roundg (ns.length - (i + 1))
              case measure => omega
              case rel =>
                refine ⟨i + 1, by omega, by omega, by go_num, ⟨below_step HB0.out hb⟩, ⟨?_⟩, ⟨by rw [take_any E.out, HA.out, hgood]; rfl⟩⟩
                exact HKC.out.push (fun k o hk ho hB => (hb.block k (blk_lt hk)).trans hk) hD (Nat.le_trans HB0.out.size hD) hdf
            case stop =>
              rintro D c pre W hD hS ⟨rfl, ht, h6, hbad⟩ hdf
              refine wpIn_wide.2 ?_
              go_wp2_with fail
              have hb6 := pw_blk_below HB0.out HR6.out
              have hnode : nodeBad s ns ⟨sl, bx, vx⟩ = true := by simp only [nodeBad, HBAD1.out, HQ.out, Int.toNat_natCast, hbad, Bool.false_or, Bool.and_true]
              refine HRET.out _ _ ⟨rfl, ?_, ?_, ?_⟩
              · exact HKC.out.push (fun k o hk ho hB => (ht.block k (blk_lt hk) (fun e => by subst e; rw [hb6] at hk; cases hk; cases ho)).trans hk) hD (Nat.le_trans HB0.out.size hD) hdf
              · rw [if_pos (List.any_eq_true.2 ⟨_, List.mem_of_getElem? E.out, hnode⟩)]
                exact h6
              · exact (Turned.of_below HB0.out).then_ (ht.less HB0.out.size)
    · have y1 : ¬ (i : Int) < (ns.length : Int) := by omega
      obtain rfl : i = ns.length := by omega
      have hb := pw_blk_below HB.out HR6.out
      have h0 := blk_cell hb 0
      have z0 := blk_frozen hb 0
      simp at h0
      have HB6 := Aside0.mk hb
      clear hb
      go_wp2_with fail
      refine HRET.out _ _ ⟨rfl, ?_, ?_, ?_⟩
      · exact HK.out.step (fun k o hk ho hB => (KeepsOthers.setCell _ _ _).same k o hk ho)
      · rw [List.take_length] at HA
        rw [HA.out]
        exact blk_set HB6.out 0 _
      · exact (Turned.of_below HB.out).then_ Turned.set
end Go.Proofs.Ytppdckjgdamlnaa

namespace Go.Proofs.Ytppdckjgdamlnaa
open Go.RowKit Go.Sort Go.Proofs.YtppdckjgdamlnaaW.PrintWords Go.Proofs.YtppdckjgdamlnaaW.PrintLast Go.Proofs.YtppdckjgdamlnaaW.PrintMore Q Go.Shelf

/-- the keys of a graph behind an add -/
def addK (ks : List (Int × List S48)) (k : Int × List S48) : List (Int × List S48) := if (keyAt ks k).isSome then ks else ks ++ [k]
def graphKeys (ns : List S31) : List (Int × List S48) := (ns.map keyN).foldl addK []
theorem graphKeys_succ {ns : List S31} {i : Nat} {x : S31} (h : ns[i]? = some x) : graphKeys (ns.take (i + 1)) = addK (graphKeys (ns.take i)) (keyN x) := by
  unfold graphKeys
  rw [List.take_add_one, h, List.map_append, List.foldl_append]; rfl
theorem foldl_addK (ks : List (Int × List S48)) : ∀ acc : List (Int × List S48), (ks.foldl addK acc).length ≤ acc.length + ks.length ∧ ((ks.foldl addK acc).length = acc.length + ks.length → ks.foldl addK acc = acc ++ ks) := by
  induction ks with
  | nil => intro acc; simp
  | cons k ks ih =>
    intro acc
    simp only [List.foldl_cons, List.length_cons]
    have h := ih (addK acc k)
    unfold addK at h ⊢
    split
    · rename_i hs
      rw [if_pos hs] at h
      exact ⟨by omega, fun he => by omega⟩
    · rename_i hs
      rw [if_neg hs] at h
      simp only [List.length_append, List.length_cons, List.length_nil, List.append_assoc, List.cons_append, List.nil_append] at h
      exact ⟨by omega, fun he => h.2 (by omega)⟩
theorem graphKeys_le (ns : List S31) : (graphKeys ns).length ≤ ns.length := by
  have := (foldl_addK (ns.map keyN) []).1
  simpa [graphKeys] using this
theorem graphKeys_eq {ns : List S31} (h : ¬ (graphKeys ns).length < ns.length) : graphKeys ns = ns.map keyN := by
  have h1 := graphKeys_le ns
  have := (foldl_addK (ns.map keyN) []).2 (by simp; unfold graphKeys at h h1; omega)
  simpa [graphKeys] using this

theorem Marks.less {B B' : Nat} {W : World} {ds : List Deferred} (h : Marks B W ds) (hb : B' ≤ B) : Marks B' W ds := by
  induction ds with
  | nil => trivial
  | cons d ds ih =>
    obtain ⟨⟨D2, e2, hB2, hk2, hn2⟩, h2⟩ := h
    exact ⟨⟨D2, e2, by omega, hk2, hn2⟩, ih h2⟩
theorem below_turned {w W W' : World} {r : Nat} (h : Below w.heap.size w W) (k : Turned W.heap.size r W W') (hr : w.heap.size ≤ r := by omega) : Below w.heap.size w W' :=
  ⟨k.os.trans h.os, k.tape.trans h.tape, k.output.trans h.output, Nat.le_trans h.size k.size, fun i hi => (k.block i (by have := h.size; omega) (by omega)).trans (h.block i hi)⟩
/-- what Prove returns -/
def proveE (s : Sys) (cost : Int) (ns : List S31) : Int :=
  if checkB s = false then 2
  else if 5000 < ns.length then 6
  else if ns.any (fun x => !formB s x) then 8
  else if (graphKeys ns).length < ns.length then 8
  else match keyAt (ns.map keyN) (0, s.start) with
    | none => 19
    | some i => if (ns.getD i z31).f2 < cost then 19 else if ns.any (nodeBad s ns) then 19 else 0

theorem results12_at {tmps : Array Value} {r6 : Nat} {v : Int} {W : World} (h6 : tmps[6]? = some (.pointer (some ⟨r6, 0, none⟩))) (hc : W.heap[r6]? = some (.cells #[.int .i64 v] 32 (0, 0))) : (results Try.f12 tmps).run Try.prog W = .ok (.int .i64 v) W := by
  have h0 := blk_cell hc 0
  simp at h0
  simp [results, Try.results12, go_sem, h6, h0]
theorem prove_ret {w W : World} {a : Act} {r6 : Nat} {v v' : Int} (h6 : a.tmps[6]? = some (.pointer (some ⟨r6, 0, none⟩))) (hm : Marks w.heap.size W a.defers) (hc : W.heap[r6]? = some (.cells #[.int .i64 v] 32 (0, 0))) (hb : Below w.heap.size w W) (hv : v = v') :
    bodyPostM Fence.wide 2 Try.prog Try.f12 (fun e w' => e = .returned (.int .i64 v') ∧ Below w.heap.size w w') .ret a W := by
  subst hv
  exact leaves_ret hm (.int .i64 v) fun W' hb' hcells => ⟨results12_at h6 (hcells _ _ _ _ hc), rfl, hb.trans hb'⟩

theorem mem_foldl_addK (ks : List (Int × List S48)) : ∀ (acc : List (Int × List S48)) (q : Int × List S48), q ∈ ks.foldl addK acc → q ∈ acc ∨ q ∈ ks := by
  induction ks with
  | nil => intro acc q h; exact .inl h
  | cons k ks ih =>
    intro acc q h
    rcases ih _ _ h with h | h
    · unfold addK at h
      split at h
      · exact .inl h
      · rcases List.mem_append.1 h with h | h
        · exact .inl h
        · exact .inr (by simp at h; simp [h])
    · exact .inr (List.mem_cons_of_mem _ h)
theorem graphKeys_len {s : Sys} {ns : List S31} (hf : ∀ x ∈ ns, formB s x = true) (h3 : s.lim.length ≤ 3) : ∀ q ∈ graphKeys ns, q.2.length ≤ 3 := by
  intro q hq
  rcases mem_foldl_addK _ _ _ hq with h | h
  · cases h
  · exact keys_len hf h3 q h
theorem kept_blk {W W' : World} {G M base k : Nat} {v s0 s1 s2 s3 : Value} {cells : List Value} {ks : List (Int × List S48)} {cs : Array Value} {T : TypeId} {f : Nat × Nat} (hg : GraphAt W G M base s0 s1 s2 s3 v cells ks) (hk : Kept W W' (AddMay G M v))
    (hb : W.heap[k]? = some (.cells cs T f)) (h31 : T ≠ 31) (h64 : T ≠ 64) : W'.heap[k]? = some (.cells cs T f) := by
  refine blk_kept hb hk ?_
  rintro (h | h | h)
  · subst h; rw [hg.blk] at hb; cases hb; exact h64 rfl
  · subst h
    obtain ⟨es, he, _⟩ := hg.map
    rw [he] at hb; cases hb
  · obtain ⟨c, hc⟩ := own_typed hg.row k h
    rw [hc] at hb; cases hb; exact h31 rfl

set_option maxRecDepth 1000000 in
set_option maxHeartbeats 8000000 in
theorem Prove_calls (s : Sys) (A0 A1 A2 A3 : Option Addr) (c0 c1 c2 c3 : Nat) (cost : Int) (N : Option Addr) (cn : Nat) (ns : List S31) (w : World) (hs : SysAt w s A0 A1 A2 A3 c0 c1 c2 c3) (hn : Kd.C k31 w N ns.length ns) :
    Calls Try.prog 12 #[sysV s A0 A1 A2 A3 c0 c1 c2 c3, .int .i64 cost, .slice N ns.length cn] w fun e w' => e = .returned (.int .i64 (proveE s cost ns)) ∧ Below w.heap.size w w' := by
  simp only [sysV]
  refine callsIn_wide.1 (callsIn_of_wp_marks (n := 2) Try.func12 rfl trivial ?_)
  simp only [Try.ntmps12, List.size_toArray, List.length_cons, List.length_nil, Nat.reduceAdd, Nat.reduceSub, Array.replicate_succ, Array.replicate_zero, List.push_toArray, List.append_toArray, List.nil_append, List.cons_append]
  refine wpIn_wide.2 ?_
  have HS := Aside0.mk hs
  have HN := Aside0.mk hn
  clear hs hn
  go_wp2_with fail
  obtain ⟨W, hW⟩ : ∃ W, W = ((w.alloc (.cells #[.slice A0 s.lim.length c0, .slice A1 s.start.length c1, .slice A2 s.modes.length c2, .slice A3 s.loads.length c3] 26)).alloc (.cells #[.slice N ns.length cn] 27)).alloc (.cells #[.int .i64 0] 32) := ⟨_, rfl⟩
  have h3 := three_new w (.cells #[.slice A0 s.lim.length c0, .slice A1 s.start.length c1, .slice A2 s.modes.length c2, .slice A3 s.loads.length c3] 26) (.cells #[.slice N ns.length cn] 27) (.cells #[.int .i64 0] 32)
  rw [← hW] at h3
  have hb : Below w.heap.size w W := by rw [hW]; exact below_alloc (below_alloc (below_alloc (Below.refl _ _) _) _) _
  rw [← hW]
  clear hW
  refine (Check_calls s A0 A1 A2 A3 c0 c1 c2 c3 W (HS.out.below hb)).mono ?_
  rintro e w1 ⟨rfl, hb1⟩
  have HB := Aside0.mk (below_step hb hb1)
  have HSB := Aside0.mk (pw_blk_below hb1 h3.1)
  have HNB := Aside0.mk (pw_blk_below hb1 h3.2.1)
  have HR6 := Aside0.mk (pw_blk_below hb1 h3.2.2)
  have r0 := blk_cell HR6.out 0
  have z0 := blk_frozen HR6.out 0
  have n0 := blk_cell HNB.out 0
  have s0 := blk_cell HSB.out 0
  have s1 := blk_cell HSB.out 1
  have s2 := blk_cell HSB.out 2
  have s3 := blk_cell HSB.out 3
  simp at r0 n0 s0 s1 s2 s3
  clear hb hb1 h3
  cases hck : checkB s with
  | false =>
    have hc2 : checkE s = 2 := by simp only [checkE, hck]; rfl
    rw [hc2]
    have HCK := Aside0.mk hck
    clear hck hc2
    go_wp2_with fail
    exact prove_ret rfl trivial (blk_set HR6.out 0 _) (HB.out.setCell (p := ⟨_, 0, none⟩) (by simp; omega) _) (by simp only [proveE, HCK.out]; rfl)
  | true =>
    have hc2 : checkE s = 0 := by simp only [checkE, hck]; rfl
    rw [hc2]
    have HCK := Aside0.mk hck
    have HOK := Aside0.mk (Ok.of_check hck)
    clear hck hc2
    by_cases h5 : 5000 < ns.length
    · have y1 : (5000 : Int) < (ns.length : Int) := by omega
      go_wp2_with fail
      exact prove_ret rfl trivial (blk_set HR6.out 0 _) (HB.out.setCell (p := ⟨_, 0, none⟩) (by simp; omega) _) (by simp only [proveE, HCK.out, if_pos h5]; rfl)
    · have y1 : ¬ (5000 : Int) < (ns.length : Int) := by omega
      have hmm := @run_makeMap Try.prog
      go_upto_region 7 with (fail)
      obtain ⟨W2, hW2⟩ : ∃ W2, W2 = ((w1.alloc (.map #[] 0)).alloc (.cells #[.slice A0 s.lim.length c0, .slice A1 s.start.length c1, .slice A2 s.modes.length c2, .slice A3 s.loads.length c3, .slice none 0 0, .map (some w1.heap.size)] 64)).alloc (.cells #[.pointer (some ⟨w1.heap.size + 1, 0, none⟩)] 61) := ⟨_, rfl⟩
      have h3 := three_new w1 (.map #[] 0) (.cells #[.slice A0 s.lim.length c0, .slice A1 s.start.length c1, .slice A2 s.modes.length c2, .slice A3 s.loads.length c3, .slice none 0 0, .map (some w1.heap.size)] 64) (.cells #[.pointer (some ⟨w1.heap.size + 1, 0, none⟩)] 61)
      rw [← hW2] at h3
      have hb2 : Below w1.heap.size w1 W2 := by rw [hW2]; exact below_alloc (below_alloc (below_alloc (Below.refl _ _) _) _) _
      have hsz := HB.out.size
      have HGA := Aside0.mk (show GraphAt W2 (w1.heap.size + 1) w1.heap.size w.heap.size (.slice A0 s.lim.length c0) (.slice A1 s.start.length c1) (.slice A2 s.modes.length c2) (.slice A3 s.loads.length c3) (.slice none 0 0) [] [] from
        ⟨h3.2.1, ⟨#[], h3.1, rfl, fun i e h => by simp at h⟩, own_nil _ _ _ _, by omega, by omega, by omega⟩)
      have HG8 := Aside0.mk h3.2.2
      have HSB2 := Aside0.mk (pw_blk_below hb2 HSB.out)
      have HNB2 := Aside0.mk (pw_blk_below hb2 HNB.out)
      have HR62 := Aside0.mk (pw_blk_below hb2 HR6.out)
      have HB2 := Aside0.mk (below_step HB.out hb2)
      rw [← hW2]
      clear hW2 h3 hmm r0 n0 s0 s1 s2 s3 z0 HSB HNB HR6 hsz
      have n0 := blk_cell HNB2.out 0
      simp at n0
      generalize w1.heap.size = M at *
      go_wp2_with fail
      clear n0
      have hd : decide ((5000 : Int) < (ns.length : Int)) = false := decide_eq_false (by omega)
      rw [hd]
      clear hd
      go_loopg [33] ns.length (fun gg s33 wr => ∃ (i : Nat) (v : Value) (cells : List Value), i ≤ ns.length ∧ ns.length - i ≤ gg ∧ s33 = .int .i64 i ∧ Aside0 (Below w.heap.size w wr) ∧ Aside0 (wr.heap[w.heap.size]? = some (.cells #[.slice A0 s.lim.length c0, .slice A1 s.start.length c1, .slice A2 s.modes.length c2, .slice A3 s.loads.length c3] 26 (0, 0))) ∧
        Aside0 (wr.heap[w.heap.size + 1]? = some (.cells #[.slice N ns.length cn] 27 (0, 0))) ∧ Aside0 (wr.heap[w.heap.size + 1 + 1]? = some (.cells #[.int .i64 0] 32 (0, 0))) ∧ Aside0 (wr.heap[M + 1 + 1]? = some (.cells #[.pointer (some ⟨M + 1, 0, none⟩)] 61 (0, 0))) ∧
        Aside0 (GraphAt wr (M + 1) M w.heap.size (.slice A0 s.lim.length c0) (.slice A1 s.start.length c1) (.slice A2 s.modes.length c2) (.slice A3 s.loads.length c3) v cells (graphKeys (ns.take i))) ∧ Aside0 (∀ y ∈ ns.take i, formB s y = true))
      case atStart => exact ⟨0, _, [], by omega, by omega, rfl, HB2, HSB2, HNB2, HR62, HG8, HGA, ⟨fun y hy => by simp at hy⟩⟩
      case round =>
        clear HB HB2 HSB2 HNB2 HR62 HG8 HGA
        obtain ⟨i, v, cells, hi, hgi, rfl, HB, HSB, HNB, HR6, HG8, HGA, HF⟩ := hrel
        have r0 := blk_cell HR6.out 0
        have z0 := blk_frozen HR6.out 0
        have n0 := blk_cell HNB.out 0
        have s0 := blk_cell HSB.out 0
        have s1 := blk_cell HSB.out 1
        have s3 := blk_cell HSB.out 3
        simp at r0 n0 s0 s1 s3
        by_cases hlt : i < ns.length
        · have y2 : (i : Int) < (ns.length : Int) := by omega
          obtain ⟨ad, x, A5, cx, rfl, E, x0, x1, x2, LC, BX⟩ := at31 (Kd.C_below HN.out HB.out) i hlt
          obtain ⟨f0, bx, vx⟩ := x
          simp only at x0 x1 x2 LC BX
          go_upto_region 10 with (fail)
          obtain ⟨W3, hW3⟩ : ∃ W3, W3 = wr.alloc (.cells #[.int .i64 f0, .slice A5 bx.length cx, .int .i64 vx] 31) := ⟨_, rfl⟩
          have hb3 : Below wr.heap.size wr W3 := by rw [hW3]; exact below_alloc (Below.refl _ _) _
          have k14 : W3.heap[wr.heap.size]? = some (.cells #[.int .i64 f0, .slice A5 bx.length cx, .int .i64 vx] 31 (0, 0)) := by rw [hW3]; exact heap_alloc_new _ _
          have HBX := Aside0.mk (show Kd.C k48 W3 A5 bx.length bx by rw [hW3]; exact Kd.C_alloc BX.out _)
          rw [← hW3]
          clear hW3 x0 x1 x2 BX
          have HB3 := Aside0.mk (below_step HB.out hb3)
          have HSB3 := Aside0.mk (pw_blk_below hb3 HSB.out)
          have HNB3 := Aside0.mk (pw_blk_below hb3 HNB.out)
          have HR63 := Aside0.mk (pw_blk_below hb3 HR6.out)
          have HG83 := Aside0.mk (pw_blk_below hb3 HG8.out)
          have HGA3 := Aside0.mk (HGA.out.below hb3)
          clear r0 z0 n0 s0 s1 s3 HSB HNB HR6 HG8 HGA HB hb3
          generalize wr.heap.size = X at *
          have r0 := blk_cell HR63.out 0
          have z0 := blk_frozen HR63.out 0
          have s0 := blk_cell HSB3.out 0
          have s3 := blk_cell HSB3.out 3
          have g0 := blk_cell HG83.out 0
          have t0 := blk_cell k14 0
          have t1 := blk_cell k14 1
          have t2 := blk_cell k14 2
          simp at r0 s0 s3 g0 t0 t1 t2
          clear k14
          by_cases hgood : formB s ⟨f0, bx, vx⟩ = true
          · have hform := hgood
            simp only [formB, Bool.and_eq_true, decide_eq_true_eq] at hform
            obtain ⟨⟨⟨⟨p0, p1⟩, p2⟩, p3⟩, p4⟩ := hform
            have q0 : ¬ f0 < 0 := by omega
            have q1 : ¬ (s.loads.length : Int) < f0 := by omega
            have q2 : (bx.length : Int) = (s.lim.length : Int) := by omega
            have q3 : ¬ vx < 0 := by omega
            have q4 : ¬ 1125899906842624 < vx := by omega
            have P2 := Aside0.mk p2
            have HGOOD := Aside0.mk hgood
            clear p0 p1 p2 p3 p4 hgood
            have hks3 : ∀ q ∈ graphKeys (ns.take i), q.2.length ≤ 3 := graphKeys_len HF.out HOK.out.n3
            have hkl : (graphKeys (ns.take i)).length ≤ 10000 := by have := graphKeys_le (ns.take i); simp at this; omega
            have HF2 := Aside0.mk (show ∀ y ∈ ns.take (i + 1), formB s y = true by
              intro y hy
              rw [List.take_add_one, E.out] at hy
              rcases List.mem_append.1 hy with hy | hy
              · exact HF.out y hy
              · simp at hy; subst hy; exact HGOOD.out)
            have HKS := Aside0.mk (graphKeys_succ E.out)
            have HK3 := Aside0.mk hks3
            have HKL := Aside0.mk hkl
            clear hks3 hkl
            go_wp2_with fail
            cases hka : keyAt (graphKeys (ns.take i)) (f0, bx) with
            | some j =>
              refine (add_old (M + 1) M w.heap.size _ _ _ _ v cells (graphKeys (ns.take i)) f0 vx A5 cx bx W3 HGA3.out HBX.out HK3.out (by rw [P2.out]; exact HOK.out.n1) (by rw [P2.out]; exact HOK.out.n3) j hka).mono ?_
              rintro e w4 ⟨rfl, hb4⟩
              have HB4 := Aside0.mk (below_step HB3.out hb4)
              have HSB4 := Aside0.mk (pw_blk_below hb4 HSB3.out)
              have HNB4 := Aside0.mk (pw_blk_below hb4 HNB3.out)
              have HR64 := Aside0.mk (pw_blk_below hb4 HR63.out)
              have HG84 := Aside0.mk (pw_blk_below hb4 HG83.out)
              have HGA4 := Aside0.mk (HGA3.out.below hb4)
              have HKE := Aside0.mk (show graphKeys (ns.take (i + 1)) = graphKeys (ns.take i) by rw [HKS.out, addK, if_pos (by simp [keyN, hka])])
              clear hb4 HSB3 HNB3 HR63 HG83 HGA3 HB3 hka
              go_wp2_with fail
              go_roundg (ns.length - (i + 1))
              case measure => omega
              case rel => exact ⟨i + 1, v, cells, by omega, by omega, by go_num, HB4, HSB4, HNB4, HR64, HG84, ⟨by rw [HKE.out]; exact HGA4.out⟩, HF2⟩
            | none =>
              refine (add_new (M + 1) M w.heap.size _ _ _ _ v cells (graphKeys (ns.take i)) f0 vx A5 cx bx W3 HGA3.out HBX.out HK3.out (by rw [P2.out]; exact HOK.out.n1) (by rw [P2.out]; exact HOK.out.n3) hka HKL.out).mono ?_
              rintro e w4 ⟨rfl, v', hg4, hb4, hk4⟩
              have HB4 := Aside0.mk (HB3.out.trans hb4)
              have HSB4 := Aside0.mk (kept_blk HGA3.out hk4 HSB3.out (by decide) (by decide))
              have HNB4 := Aside0.mk (kept_blk HGA3.out hk4 HNB3.out (by decide) (by decide))
              have HR64 := Aside0.mk (kept_blk HGA3.out hk4 HR63.out (by decide) (by decide))
              have HG84 := Aside0.mk (kept_blk HGA3.out hk4 HG83.out (by decide) (by decide))
              have HGA4 := Aside0.mk hg4
              have HKE := Aside0.mk (show graphKeys (ns.take (i + 1)) = graphKeys (ns.take i) ++ [(f0, bx)] by rw [HKS.out, addK, if_neg (by simp [keyN, hka])]; rfl)
              clear hb4 hg4 hk4 HSB3 HNB3 HR63 HG83 HGA3 HB3 hka
              go_wp2_with fail
              go_roundg (ns.length - (i + 1))
              case measure => omega
              case rel => exact ⟨i + 1, v', _, by omega, by omega, by go_num, HB4, HSB4, HNB4, HR64, HG84, ⟨by rw [HKE.out]; exact HGA4.out⟩, HF2⟩
          · have hbad := Aside0.mk (show proveE s cost ns = 8 by
              have : ns.any (fun x => !formB s x) = true := List.any_eq_true.2 ⟨_, List.mem_of_getElem? E.out, by simpa using hgood⟩
              simp only [proveE, HCK.out, this, if_neg h5]; rfl)
            have hc : f0 < 0 ∨ (¬ f0 < 0 ∧ (s.loads.length : Int) < f0) ∨ (¬ f0 < 0 ∧ ¬ (s.loads.length : Int) < f0 ∧ (bx.length : Int) ≠ (s.lim.length : Int)) ∨ (¬ f0 < 0 ∧ ¬ (s.loads.length : Int) < f0 ∧ (bx.length : Int) = (s.lim.length : Int) ∧ vx < 0) ∨
                (¬ f0 < 0 ∧ ¬ (s.loads.length : Int) < f0 ∧ (bx.length : Int) = (s.lim.length : Int) ∧ ¬ vx < 0 ∧ 1125899906842624 < vx) := by
              simp only [formB, Bool.and_eq_true, decide_eq_true_eq] at hgood
              omega
            clear hgood
            rcases hc with q0 | ⟨q0, q1⟩ | ⟨q0, q1, q2⟩ | ⟨q0, q1, q2, q3⟩ | ⟨q0, q1, q2, q3, q4⟩
            all_goals
              go_wp2_with fail
              exact prove_ret rfl trivial (blk_set HR63.out 0 _) (HB3.out.setCell (p := ⟨_, 0, none⟩) (by simp; omega) _) hbad.out.symm
        · have y2 : ¬ (i : Int) < (ns.length : Int) := by omega
          obtain rfl : i = ns.length := by omega
          rw [List.take_length] at HGA HF
          obtain ⟨Av, cv, rfl⟩ := own_slice HGA.out.row
          have g0 := blk_cell HG8.out 0
          have g4 := blk_cell HGA.out.blk 4
          have g5 := blk_cell HGA.out.blk 5
          simp at g0 g4 g5
          have HFORM := Aside0.mk (show ns.any (fun x => !formB s x) = false from List.any_eq_false.2 fun y hy => by rw [HF.out y hy]; decide)
          by_cases h6 : (graphKeys ns).length < ns.length
          · have y3 : ((graphKeys ns).length : Int) < (ns.length : Int) := by omega
            go_wp2_with fail
            go_quiet (fail)
            go_wp2_with fail
            exact prove_ret rfl trivial (blk_set (show (wr.drewN nq).heap[_]? = _ from HR6.out) 0 _) ((pw_below_drewN HB.out nq).setCell (p := ⟨_, 0, none⟩) (by simp; omega) _) (by simp only [proveE, HCK.out, if_neg h5, HFORM.out, if_pos h6]; rfl)
          · have y3 : ¬ ((graphKeys ns).length : Int) < (ns.length : Int) := by omega
            have HKEYS := Aside0.mk (graphKeys_eq h6)
            have H6 := Aside0.mk h6
            go_wp2_with fail
            go_quiet (fail)
            obtain ⟨W4, hW4⟩ : ∃ W4, W4 = wr.drewN nq := ⟨_, rfl⟩
            have hb4 : Below wr.heap.size wr W4 := by rw [hW4]; exact pw_below_drewN (Below.refl _ _) nq
            rw [← hW4]
            clear hW4 r0 z0 n0 s0 s1 s3 g0 g4 g5 y3 h6
            have HB4 := Aside0.mk (below_step HB.out hb4)
            have HSB4 := Aside0.mk (pw_blk_below hb4 HSB.out)
            have HNB4 := Aside0.mk (pw_blk_below hb4 HNB.out)
            have HR64 := Aside0.mk (pw_blk_below hb4 HR6.out)
            have HG84 := Aside0.mk (pw_blk_below hb4 HG8.out)
            have HGA4 := Aside0.mk (HGA.out.below hb4)
            clear HSB HNB HR6 HG8 HGA HB hb4
            have e1 := fun d os => cell_regrown (w := W4) (a := ⟨M + 1 + 1, 0, none⟩) (v := .pointer (some ⟨M + 1, 0, none⟩)) (by have := blk_cell HG84.out 0; simpa using this) d os
            have e2 := fun d os => cell_regrown (w := W4) (a := ⟨M + 1, 5, none⟩) (v := .map (some M)) (by have := blk_cell HGA4.out.blk 5; simpa using this) d os
            have e3 := fun d os => cell_regrown (w := W4) (a := ⟨w.heap.size, 1, none⟩) (v := .slice A1 s.start.length c1) (by have := blk_cell HSB4.out 1; simpa using this) d os
            have hst := HOK.out.startLen
            have HST3 := Aside0.mk (show s.start.length ≤ 3 by rw [hst]; exact HOK.out.n3)
            have HKEY := Aside0.mk (fun d os => Calls.regrown_of (keyOf_calls 0 A1 c1 s.start (grow (redrawn W4 d) os) (Kd.C_below (HS.out.below HB4.out).r1 (below_regrown W4 d os)) HST3.out (by rw [hst]; exact HOK.out.n1)))
            have hlk := fun d os => lookup_run (grow (redrawn W4 d) os) M (graphKeys ns) (0, s.start) HST3.out (graphKeys_len HF.out HOK.out.n3) (HGA4.out.map.below (below_regrown W4 d os))
            rw [HKEYS.out] at hlk
            clear hst
            go_upto_region 16 with (fail)
            cases hka : keyAt (ns.map keyN) (0, s.start) with
            | none =>
              rw [hka] at hlk
              refine wp_region_quiet_below (by kernel_rfl) (by kernel_rfl) ?_
              repeat (go_big_quiet_step (exact HKEY.out _ _))
              refine wpQuiet_nil ?_
              rintro w5 ⟨p5, hw5⟩
              have hb5 := below_regrown W4 p5.d p5.os
              rw [← hw5] at hb5
              have HB5 := Aside0.mk (below_step HB4.out hb5)
              have HSB5 := Aside0.mk (pw_blk_below hb5 HSB4.out)
              have HNB5 := Aside0.mk (pw_blk_below hb5 HNB4.out)
              have HR65 := Aside0.mk (pw_blk_below hb5 HR64.out)
              have HG85 := Aside0.mk (pw_blk_below hb5 HG84.out)
              have HGA5 := Aside0.mk (HGA4.out.below hb5)
              have HKA := Aside0.mk hka
              clear hb5 HSB4 HNB4 HR64 HG84 HGA4 HB4 hw5 hlk e1 e2 e3 HKEY hka
              have r0 := blk_cell HR65.out 0
              have z0 := blk_frozen HR65.out 0
              have n0 := blk_cell HNB5.out 0
              simp at r0 n0
              go_wp2_with fail
              exact prove_ret rfl trivial (blk_set HR65.out 0 _) (HB5.out.setCell (p := ⟨_, 0, none⟩) (by simp; omega) _) (by simp only [proveE, HCK.out, if_neg h5, HFORM.out, if_neg H6.out, HKA.out]; rfl)
            | some j =>
              rw [hka] at hlk
              refine wp_region_quiet_below (by kernel_rfl) (by kernel_rfl) ?_
              repeat (go_big_quiet_step (exact HKEY.out _ _))
              refine wpQuiet_nil ?_
              rintro w5 ⟨p5, hw5⟩
              have hb5 := below_regrown W4 p5.d p5.os
              rw [← hw5] at hb5
              have HB5 := Aside0.mk (below_step HB4.out hb5)
              have HSB5 := Aside0.mk (pw_blk_below hb5 HSB4.out)
              have HNB5 := Aside0.mk (pw_blk_below hb5 HNB4.out)
              have HR65 := Aside0.mk (pw_blk_below hb5 HR64.out)
              have HG85 := Aside0.mk (pw_blk_below hb5 HG84.out)
              have HGA5 := Aside0.mk (HGA4.out.below hb5)
              have HKA := Aside0.mk hka
              clear hb5 HSB4 HNB4 HR64 HG84 HGA4 HB4 hw5 hlk e1 e2 e3 HKEY hka
              have r0 := blk_cell HR65.out 0
              have z0 := blk_frozen HR65.out 0
              have n0 := blk_cell HNB5.out 0
              simp at r0 n0
              have hj : j < ns.length := by have := keyAt_lt HKA.out; simpa using this
              obtain ⟨ad, nd, A5, c5, rfl, E5, _, _, u2, _, _⟩ := at31 (Kd.C_below HN.out HB5.out) j hj
              have hgd : ns.getD j z31 = nd := by rw [List.getD_eq_getElem?_getD, E5.out]; rfl
              have HGD := Aside0.mk hgd
              have y4 : (j : Int) < (ns.length : Int) := by omega
              clear hj hgd
              by_cases hco : nd.f2 < cost
              · go_wp2_with fail
                exact prove_ret rfl trivial (blk_set HR65.out 0 _) (HB5.out.setCell (p := ⟨_, 0, none⟩) (by simp; omega) _) (by simp only [proveE, HCK.out, if_neg h5, HFORM.out, if_neg H6.out, HKA.out, HGD.out, if_pos hco]; rfl)
              · go_upto_if 100 with (fail)
                go_step
                go_step
                go_step
                go_step
                apply tail_wp s A0 A1 A2 A3 c0 c1 c2 c3 (some ad) cn ns w.heap.size (w.heap.size + 1) (w.heap.size + 1 + 1) (M + 1 + 1) (M + 1) M 0 _ w5 HOK.out (by omega) HF.out HSB5.out HNB5.out HR65.out HG85.out HGA5.out.blk (by have := HGA5.out.map; rw [HKEYS.out] at this; exact this) (HS.out.below HB5.out) (Kd.C_below HN.out HB5.out)
                intro a' W' hl
                obtain ⟨l1, l2, l3, l4⟩ := hl
                exact prove_ret l1 (Marks.less l2 HB5.out.size) l3 (below_turned HB5.out l4) (by simp only [proveE, HCK.out, if_neg h5, HFORM.out, if_neg H6.out, HKA.out, HGD.out, if_neg hco]; rfl)
end Go.Proofs.Ytppdckjgdamlnaa
