/- The plain law: what thermal.Prove returns is what the document's Prove returns. -/
import Derived.Test.YtppdckjgdamlnaaMC
import Derived.Test.YtppdckjgdamlnaaMA
import Derived.Test.YtppdckjgdamlnaaRows
import Derived.Lib.SmallJoins
import Derived.SizedLaws
import Derived.Deep.Slices
import Derived.Deep.Strs
namespace Go.Proofs.Ytppdckjgdamlnaa
open Go.RowKit Go.Sort Go.Proofs.YtppdckjgdamlnaaW.PrintWords Go.Proofs.YtppdckjgdamlnaaW.PrintLast Go.Proofs.YtppdckjgdamlnaaW.PrintMore Q Go.Shelf

theorem flat_inj : ∀ (b b' : List S48), flat b = flat b' → b = b' := by
  intro b
  induction b with
  | nil =>
    intro b' h
    have := congrArg List.length h
    rw [flat_len, flat_len] at this
    exact (List.length_eq_zero_iff.1 (by simp only [List.length_nil] at this; omega)).symm
  | cons x xs ih =>
    intro b' h
    match b', h with
    | [], h => have := congrArg List.length h; rw [flat_len, flat_len] at this; simp at this
    | y :: ys, h =>
      have h' : x.f0 :: x.f1 :: flat xs = y.f0 :: y.f1 :: flat ys := h
      injection h' with h1 h2
      injection h2 with h2 h3
      rw [ih ys h3]
      cases x; cases y; simp_all
theorem keyInts_inj {s s' : Int} {b b' : List S48} (hl : b.length = b'.length) : keyInts s b = keyInts s' b' ↔ s' = s ∧ b' = b := by
  constructor
  · intro h
    unfold keyInts at h
    injection h with h1 h2
    have := List.append_inj h2 (by rw [flat_len, flat_len, hl])
    exact ⟨h1.symm, (flat_inj _ _ this.1).symm⟩
  · rintro ⟨rfl, rfl⟩; rfl
theorem keyAt_findK (L : Nat) (k : Int × List S48) (hk : k.2.length = L) : ∀ (ks : List (Int × List S48)), (∀ q ∈ ks, q.2.length = L) → keyAt ks k = findK ks k := by
  intro ks h
  unfold keyAt findK
  induction ks with
  | nil => rfl
  | cons q ks ih =>
    rw [List.findIdx?_cons, List.findIdx?_cons, ih (fun q hq => h q (List.mem_cons_of_mem _ hq))]
    have hq := h q List.mem_cons_self
    have : decide (keyInts k.1 k.2 = keyInts q.1 q.2) = (decide (q.1 = k.1) && decide (q.2 = k.2)) := by
      rw [Bool.eq_iff_iff]
      simp only [decide_eq_true_eq, Bool.and_eq_true]
      exact keyInts_inj (by rw [hk, hq])
    rw [this]
theorem keyN_len {s : Sys} {ns : List S31} (hf : ∀ x ∈ ns, formB s x = true) : ∀ q ∈ ns.map keyN, q.2.length = s.lim.length := by
  intro q hq
  obtain ⟨x, hx, rfl⟩ := List.mem_map.1 hq
  have := hf x hx
  simp only [formB, Bool.and_eq_true, decide_eq_true_eq] at this
  exact this.1.1.2
theorem graphKeys_take_le (ns : List S31) (i : Nat) : (graphKeys ns).length ≤ (graphKeys (ns.take i)).length + (ns.length - i) := by
  have e : graphKeys ns = ((ns.drop i).map keyN).foldl addK (graphKeys (ns.take i)) := by
    unfold graphKeys
    rw [← List.foldl_append, ← List.map_append, List.take_append_drop]
  have := (foldl_addK ((ns.drop i).map keyN) (graphKeys (ns.take i))).1
  rw [← e] at this
  simpa using this
theorem graphKeys_dup (ns : List S31) : (graphKeys ns).length < ns.length ↔ ∃ i x, ns[i]? = some x ∧ (keyAt ((ns.take i).map keyN) (keyN x)).isSome = true := by
  constructor
  · intro h
    apply Classical.byContradiction
    intro hn
    have hn' : ∀ i x, ns[i]? = some x → keyAt ((ns.take i).map keyN) (keyN x) = none := fun i x hx => by
      cases hk : keyAt ((ns.take i).map keyN) (keyN x) with
      | none => rfl
      | some j => exact absurd ⟨i, x, hx, by rw [hk]; rfl⟩ hn
    have : ∀ i, i ≤ ns.length → graphKeys (ns.take i) = (ns.take i).map keyN := by
      intro i
      induction i with
      | zero => intro _; rfl
      | succ i ih =>
        intro hi
        have hx := List.getElem?_eq_getElem (show i < ns.length by omega)
        rw [graphKeys_succ hx, ih (by omega), addK, hn' i _ hx, List.take_add_one, hx, if_neg (by simp), List.map_append]
        rfl
    have e := this ns.length (Nat.le_refl _)
    rw [List.take_length] at e
    rw [e] at h
    simp at h
  · rintro ⟨i, x, hx, hk⟩
    apply Classical.byContradiction
    intro hn
    have hi := (List.getElem?_eq_some_iff.1 hx).1
    have h1 := graphKeys_take_le ns i
    have h2 := graphKeys_take_le ns (i + 1)
    have h3 := graphKeys_le (ns.take i)
    have h4 := graphKeys_le (ns.take (i + 1))
    simp only [List.length_take] at h3 h4
    have e1 : graphKeys (ns.take i) = (ns.take i).map keyN := graphKeys_eq (by simp; omega)
    rw [graphKeys_succ hx, addK, e1, if_pos hk] at h2
    simp at h2
    omega
theorem any_filterMap' {α β : Type} (f : α → Option β) (p : β → Bool) (l : List α) : (l.filterMap f).any p = l.any fun a => match f a with
    | none => false
    | some b => p b := by
  induction l with
  | nil => rfl
  | cons a l ih =>
    rw [List.filterMap_cons, List.any_cons]
    cases h : f a with
    | none => simp [ih]
    | some b => simp [ih]
theorem any_congr' {α : Type} {p q : α → Bool} {l : List α} (h : ∀ a ∈ l, p a = q a) : l.any p = l.any q := by
  induction l with
  | nil => rfl
  | cons a l ih => rw [List.any_cons, List.any_cons, h a List.mem_cons_self, ih fun b hb => h b (List.mem_cons_of_mem _ hb)]
theorem nodeBad_R {s : Sys} (hok : Ok s) {ns : List S31} (hf : ∀ x ∈ ns, formB s x = true) {x : S31} (hx : formB s x = true) : nodeBad s ns x = nodeBadR s ns x := by
  simp only [formB, Bool.and_eq_true, decide_eq_true_eq] at hx
  obtain ⟨⟨⟨⟨p0, p1⟩, p2⟩, p3⟩, p4⟩ := hx
  unfold nodeBad nodeBadR
  by_cases h : x.f0 = s.loads.length
  · rw [if_pos h, decide_eq_true h]
    have : waysL s x.f0.toNat x.f1 = [] := by
      unfold waysL
      rw [List.getElem?_eq_none (by omega)]
    rw [this]; simp
  · rw [if_neg h, decide_eq_false h, Bool.false_and, Bool.false_or, insideR_eq _ _ hok.lim p2]
    congr 1
    have hsl : x.f0.toNat < s.loads.length := by omega
    obtain ⟨load, hload⟩ : ∃ load, s.loads[x.f0.toNat]? = some load := ⟨_, List.getElem?_eq_getElem hsl⟩
    have : waysL s x.f0.toNat x.f1 = waysTo s load x.f1 s.modes.length := by unfold waysL; rw [hload]
    rw [this, waysTo, any_filterMap']
    refine any_congr' fun k hk => ?_
    have hk := List.mem_range.1 hk
    obtain ⟨m, hm⟩ : ∃ m, s.modes[k]? = some m := ⟨_, List.getElem?_eq_getElem hk⟩
    have hbl : boxL s x k = advL m load x.f1 := by simp only [boxL, List.getD_eq_getElem?_getD, hm, hload, Option.getD_some]
    have hal : (advL m load x.f1).length = s.lim.length := (advL_len _ _ _ (by rw [(hok.mode hm).len, p2]) (by rw [hok.load hload, p2])).trans p2
    unfold wayOf wayBadR
    rw [hm, hbl, insideR_eq _ _ hok.lim hal, ← keyAt_findK s.lim.length _ hal _ (keyN_len hf)]
    cases hi : insideB s.lim (advL m load x.f1) with
    | false => simp only [hi, Bool.false_eq_true, if_false, Bool.false_and]
    | true =>
      simp only [hi, if_true, Bool.true_and, wayBad]
      rfl
theorem proveE_R (s : Sys) (cost : Int) (ns : List S31) : proveE s cost ns = proveR s cost ns := by
  unfold proveE proveR
  by_cases hc : checkB s = false
  · rw [if_pos hc, if_pos hc]
  rw [if_neg hc, if_neg hc]
  have hok := Ok.of_check (by simpa using hc)
  by_cases h5 : 5000 < ns.length
  · rw [if_pos h5, if_pos h5]
  rw [if_neg h5, if_neg h5]
  by_cases hf : ns.any (fun x => !formB s x) = true
  · rw [if_pos hf, if_pos]
    obtain ⟨x, hx, hb⟩ := List.any_eq_true.1 hf
    obtain ⟨i, hi, rfl⟩ := List.mem_iff_getElem.1 hx
    refine List.any_eq_true.2 ⟨i, List.mem_range.2 hi, ?_⟩
    simp only [badAtR, List.getElem?_eq_getElem hi, hb, Bool.true_or]
  rw [if_neg hf]
  have hF : ∀ x ∈ ns, formB s x = true := fun x hx => by
    cases h : formB s x with
    | true => rfl
    | false => exact absurd (List.any_eq_true.2 ⟨x, hx, by rw [h]; rfl⟩) hf
  have hdup : (graphKeys ns).length < ns.length ↔ (List.range ns.length).any (badAtR s ns) = true := by
    rw [graphKeys_dup, List.any_eq_true]
    constructor
    · rintro ⟨i, x, hx, hk⟩
      have hi := (List.getElem?_eq_some_iff.1 hx).1
      refine ⟨i, List.mem_range.2 hi, ?_⟩
      rw [keyAt_findK s.lim.length _ (keyN_len hF _ (List.mem_map.2 ⟨x, List.mem_of_getElem? hx, rfl⟩)) _ (fun q hq => keyN_len hF q (by
        rw [List.map_take] at hq; exact List.mem_of_mem_take hq))] at hk
      simp only [badAtR, hx, hk, Bool.or_true]
    · rintro ⟨i, hi, hb⟩
      have hi := List.mem_range.1 hi
      have hx := List.getElem?_eq_getElem hi
      refine ⟨i, _, hx, ?_⟩
      rw [keyAt_findK s.lim.length _ (keyN_len hF _ (List.mem_map.2 ⟨_, List.mem_of_getElem? hx, rfl⟩)) _ (fun q hq => keyN_len hF q (by
        rw [List.map_take] at hq; exact List.mem_of_mem_take hq))]
      simpa only [badAtR, hx, hF _ (List.mem_of_getElem? hx), Bool.not_true, Bool.false_or] using hb
  by_cases hd : (graphKeys ns).length < ns.length
  · rw [if_pos hd, if_pos (hdup.1 hd)]
  rw [if_neg hd, if_neg (fun h => hd (hdup.2 h)), keyAt_findK s.lim.length _ hok.startLen _ (keyN_len hF)]
  have : ns.any (nodeBad s ns) = ns.any (nodeBadR s ns) := any_congr' fun x hx => nodeBad_R hok hF (hF x hx)
  rw [this]
  rfl
end Go.Proofs.Ytppdckjgdamlnaa

namespace Go.Proofs.Ytppdckjgdamlnaa
open Go.RowKit Go.Sort Go.Proofs.YtppdckjgdamlnaaW.PrintWords Go.Proofs.YtppdckjgdamlnaaW.PrintLast Go.Proofs.YtppdckjgdamlnaaW.PrintMore Q Go.Shelf

def shortM (m : S53) : Bool := decide (m.f1.length ≤ 10) && decide (m.f2.length ≤ 10)
def shortL (l : List S48) : Bool := decide (l.length ≤ 10)
def shortN (s : Sys) : Bool := decide (s.lim.length ≤ 10) && decide (s.start.length ≤ 10) && decide (s.modes.length ≤ 20) && decide (s.loads.length ≤ 60)
def shortB (s : Sys) : Bool := shortN s && s.modes.all shortM && s.loads.all shortL

theorem short_lens (s : Sys) (A0 A1 A2 A3 : Option Addr) (c0 c1 c2 c3 : Nat) (w : World) (h : shortN s = false) :
    Calls Try.prog 10 #[sysV s A0 A1 A2 A3 c0 c1 c2 c3] w fun e w' => e = .returned (.bool false) ∧ Below w.heap.size w w' := by
  have hd : (10 : Int) < s.lim.length ∨ (¬ (10 : Int) < s.lim.length ∧ (10 : Int) < s.start.length) ∨ (¬ (10 : Int) < s.lim.length ∧ ¬ (10 : Int) < s.start.length ∧ (20 : Int) < s.modes.length) ∨
    (¬ (10 : Int) < s.lim.length ∧ ¬ (10 : Int) < s.start.length ∧ ¬ (20 : Int) < s.modes.length ∧ (60 : Int) < s.loads.length) := by
    simp only [shortN, Bool.and_eq_false_iff, decide_eq_false_iff_not] at h
    omega
  clear h
  simp only [sysV]
  rcases hd with q0 | ⟨q0, q1⟩ | ⟨q0, q1, q2⟩ | ⟨q0, q1, q2, q3⟩
  all_goals
    go_enter Try.func10, Try.ntmps10
    go_wp2_with fail
    go_ret
    exact ⟨rfl, below_alloc (Below.refl _ _) _⟩

set_option maxRecDepth 100000 in
set_option maxHeartbeats 4000000 in
theorem short_calls (s : Sys) (A0 A1 A2 A3 : Option Addr) (c0 c1 c2 c3 : Nat) (w : World) (hs : SysAt w s A0 A1 A2 A3 c0 c1 c2 c3) :
    Calls Try.prog 10 #[sysV s A0 A1 A2 A3 c0 c1 c2 c3] w fun e w' => e = .returned (.bool (shortB s)) ∧ Below w.heap.size w w' := by
  by_cases h : shortN s = false
  · have := short_lens s A0 A1 A2 A3 c0 c1 c2 c3 w h
    have e : shortB s = false := by simp [shortB, h]
    rw [e]; exact this
  rw [Bool.not_eq_false] at h
  have HSN := Aside0.mk h
  simp only [shortN, Bool.and_eq_true, decide_eq_true_eq] at h
  obtain ⟨⟨⟨p0, p1⟩, p2⟩, p3⟩ := h
  have q0 : ¬ (10 : Int) < (s.lim.length : Int) := by omega
  have q1 : ¬ (10 : Int) < (s.start.length : Int) := by omega
  have q2 : ¬ (20 : Int) < (s.modes.length : Int) := by omega
  have q3 : ¬ (60 : Int) < (s.loads.length : Int) := by omega
  have HS := Aside0.mk hs
  clear hs
  simp only [sysV]
  go_enter Try.func10, Try.ntmps10
  go_wp2_with fail
  obtain ⟨W, hW⟩ : ∃ W, W = w.alloc (.cells #[.slice A0 s.lim.length c0, .slice A1 s.start.length c1, .slice A2 s.modes.length c2, .slice A3 s.loads.length c3] 26) := ⟨_, rfl⟩
  have HB := Aside0.mk (show Below w.heap.size w W by rw [hW]; exact below_alloc (Below.refl _ _) _)
  have K0 := Aside0.mk (show W.heap[w.heap.size]? = some (.cells #[.slice A0 s.lim.length c0, .slice A1 s.start.length c1, .slice A2 s.modes.length c2, .slice A3 s.loads.length c3] 26 (0, 0)) by rw [hW]; exact heap_alloc_new _ _)
  rw [← hW]
  clear hW q0 q1 q2 q3
  have x2 := blk_cell K0.out 2
  have x3 := blk_cell K0.out 3
  simp at x2 x3
  have hX := (HS.out.below HB.out)
  have HX := Aside0.mk hX
  clear hX
  go_loopg [3] s.modes.length (fun gg s3 wr => ∃ i : Nat, i ≤ s.modes.length ∧ s.modes.length - i ≤ gg ∧ s3 = .int .i64 i ∧ Aside0 (wr = W) ∧ Aside0 ((s.modes.take i).all shortM = true))
  case atStart => exact ⟨0, by omega, by omega, rfl, ⟨rfl⟩, ⟨by simp⟩⟩
  case round =>
    obtain ⟨i, hi, hgi, rfl, hwr, HA⟩ := hrel
    have hwr := hwr.out
    subst hwr
    by_cases hlt : i < s.modes.length
    · have y1 : (i : Int) < (s.modes.length : Int) := by omega
      obtain ⟨ad, m, Am, cm, Af, cf, rfl, E, v0, v1, v2, M1, M2, M3, M4⟩ := at53 HX.out.r2 i hlt
      by_cases hm : shortM m = true
      · have HA2 := Aside0.mk (show (s.modes.take (i + 1)).all shortM = true by rw [List.take_add_one, E.out, List.all_append, HA.out]; simp [hm])
        simp only [shortM, Bool.and_eq_true, decide_eq_true_eq] at hm
        have q0 : ¬ (10 : Int) < (m.f1.length : Int) := by omega
        have q1 : ¬ (10 : Int) < (m.f2.length : Int) := by omega
        clear HA hm
        go_wp2_with fail
        go_roundg (s.modes.length - (i + 1))
        case measure => omega
        case rel => exact ⟨i + 1, by omega, by omega, by go_num, ⟨rfl⟩, HA2⟩
      · have HR := Aside0.mk (show shortB s = false by
          have : s.modes.all shortM = false := List.all_eq_false.2 ⟨m, List.mem_of_getElem? E.out, hm⟩
          simp [shortB, this])
        have hd : (10 : Int) < m.f1.length ∨ (¬ (10 : Int) < m.f1.length ∧ (10 : Int) < m.f2.length) := by
          simp only [shortM, Bool.and_eq_true, decide_eq_true_eq] at hm
          omega
        clear hm
        rcases hd with q0 | ⟨q0, q1⟩
        all_goals
          go_wp2_with fail
          go_ret
          exact ⟨ret_b HR.out.symm, HB.out⟩
    · have y1 : ¬ (i : Int) < (s.modes.length : Int) := by omega
      obtain rfl : i = s.modes.length := by omega
      have HM := Aside0.mk (show s.modes.all shortM = true by have := HA.out; rwa [List.take_length] at this)
      clear HA
      go_wp2_with fail
      clear y1 x2
      go_loopg [4] s.loads.length (fun gg s4 wr2 => ∃ j : Nat, j ≤ s.loads.length ∧ s.loads.length - j ≤ gg ∧ s4 = .int .i64 j ∧ Aside0 (wr2 = wr) ∧ Aside0 ((s.loads.take j).all shortL = true))
      case atStart => exact ⟨0, by omega, by omega, rfl, ⟨rfl⟩, ⟨by simp⟩⟩
      case round =>
        obtain ⟨j, hj, hgj, rfl, hwr2, HA⟩ := hrel
        have hwr2 := hwr2.out
        subst hwr2
        by_cases hlt : j < s.loads.length
        · have y1 : (j : Int) < (s.loads.length : Int) := by omega
          obtain ⟨ad, ld, Al, cl, rfl, E, v0, LL, LC⟩ := atL48 HX.out.r3 j hlt
          by_cases hm : shortL ld = true
          · have HA2 := Aside0.mk (show (s.loads.take (j + 1)).all shortL = true by rw [List.take_add_one, E.out, List.all_append, HA.out]; simp [hm])
            simp only [shortL, decide_eq_true_eq] at hm
            have q0 : ¬ (10 : Int) < (ld.length : Int) := by omega
            clear HA hm
            go_wp2_with fail
            go_roundg (s.loads.length - (j + 1))
            case measure => omega
            case rel => exact ⟨j + 1, by omega, by omega, by go_num, ⟨rfl⟩, HA2⟩
          · have HR := Aside0.mk (show shortB s = false by
              have : s.loads.all shortL = false := List.all_eq_false.2 ⟨ld, List.mem_of_getElem? E.out, hm⟩
              simp [shortB, this])
            have q0 : (10 : Int) < ld.length := by
              simp only [shortL, decide_eq_true_eq] at hm
              omega
            clear hm
            go_wp2_with fail
            go_ret
            exact ⟨ret_b HR.out.symm, HB.out⟩
        · have y1 : ¬ (j : Int) < (s.loads.length : Int) := by omega
          obtain rfl : j = s.loads.length := by omega
          have HR := Aside0.mk (show shortB s = true by
            have h := HA.out
            rw [List.take_length] at h
            simp only [shortB, HSN.out, HM.out, h, Bool.and_self])
          clear HA
          go_wp2_with fail
          go_ret
          exact ⟨ret_b HR.out.symm, HB.out⟩
end Go.Proofs.Ytppdckjgdamlnaa

namespace Go.Proofs.Ytppdckjgdamlnaa
open Go.RowKit Go.Sort Go.Proofs.YtppdckjgdamlnaaW.PrintWords Go.Proofs.YtppdckjgdamlnaaW.PrintLast Go.Proofs.YtppdckjgdamlnaaW.PrintMore Q Go.Shelf

set_option maxRecDepth 100000 in
set_option maxHeartbeats 4000000 in
theorem ThermalProves_calls (s : Sys) (A0 A1 A2 A3 : Option Addr) (c0 c1 c2 c3 : Nat) (cost : Int) (N : Option Addr) (cn : Nat) (ns : List S31) (w : World) (hs : SysAt w s A0 A1 A2 A3 c0 c1 c2 c3) (hn : Kd.C k31 w N ns.length ns) (hcn : ns.length ≤ cn) :
    Calls Try.prog 3 #[sysV s A0 A1 A2 A3 c0 c1 c2 c3, .int .i64 cost, .slice N ns.length cn] w fun e w' => e = .returned (.bool true) ∧ Below w.heap.size w w' := by
  simp only [sysV]
  have HS := Aside0.mk hs
  have HN := Aside0.mk hn
  have HCN := Aside0.mk hcn
  have hln := hn.2.1
  clear hs hn hcn
  go_enter Try.func3, Try.ntmps3
  go_wp2_with fail
  obtain ⟨W, hW⟩ : ∃ W, W = w.alloc (.cells #[.slice A0 s.lim.length c0, .slice A1 s.start.length c1, .slice A2 s.modes.length c2, .slice A3 s.loads.length c3] 26) := ⟨_, rfl⟩
  have HB := Aside0.mk (show Below w.heap.size w W by rw [hW]; exact below_alloc (Below.refl _ _) _)
  have K0 := Aside0.mk (show W.heap[w.heap.size]? = some (.cells #[.slice A0 s.lim.length c0, .slice A1 s.start.length c1, .slice A2 s.modes.length c2, .slice A3 s.loads.length c3] 26 (0, 0)) by rw [hW]; exact heap_alloc_new _ _)
  rw [← hW]
  clear hW
  refine (short_calls s A0 A1 A2 A3 c0 c1 c2 c3 W (HS.out.below HB.out)).mono ?_
  rintro e w1 ⟨rfl, hb⟩
  replace HB := Aside0.mk (below_step HB.out hb)
  replace K0 := Aside0.mk (pw_blk_below hb K0.out)
  clear hb
  cases hsh : shortB s with
  | false =>
    clear hsh
    go_wp2_with fail
    refine (works_calls _).mono ?_
    rintro e w2 ⟨rfl, hb⟩
    have HB2 := Aside0.mk (below_step HB.out hb)
    clear hb
    go_wp2_with fail
    go_ret
    exact ⟨rfl, HB2.out⟩
  | true =>
  clear hsh
  by_cases h5 : 200 < ns.length
  · have y1 : (200 : Int) < (ns.length : Int) := by omega
    go_wp2_with fail
    refine (works_calls _).mono ?_
    rintro e w2 ⟨rfl, hb⟩
    have HB2 := Aside0.mk (below_step HB.out hb)
    clear hb
    go_wp2_with fail
    go_ret
    exact ⟨rfl, HB2.out⟩
  have y1 : ¬ (200 : Int) < (ns.length : Int) := by omega
  go_wp2_with fail
  clear y1 h5
  go_loopg [7] ns.length (fun gg s7 wr => ∃ i : Nat, i ≤ ns.length ∧ ns.length - i ≤ gg ∧ s7 = .int .i64 i ∧ Aside0 (wr = w1))
  case atStart => exact ⟨0, by omega, by omega, rfl, ⟨rfl⟩⟩
  case round =>
    obtain ⟨i, hi, hgi, rfl, hwr⟩ := hrel
    have hwr := hwr.out
    subst hwr
    by_cases hlt : i < ns.length
    · have y2 : (i : Int) < (ns.length : Int) := by omega
      obtain ⟨ad, x, A5, c5, rfl, E, x0, x1, x2, LC, BX⟩ := at31 (Kd.C_below HN.out HB.out) i hlt
      by_cases hm : 20 < x.f1.length
      · have q0 : (20 : Int) < (x.f1.length : Int) := by omega
        go_wp2_with fail
        refine (works_calls _).mono ?_
        rintro e w2 ⟨rfl, hb⟩
        have HB2 := Aside0.mk (below_step HB.out hb)
        clear hb
        go_wp2_with fail
        go_ret
        exact ⟨rfl, HB2.out⟩
      · have q0 : ¬ (20 : Int) < (x.f1.length : Int) := by omega
        go_wp2_with fail
        go_roundg (ns.length - (i + 1))
        case measure => omega
        case rel => exact ⟨i + 1, by omega, by omega, by go_num, ⟨rfl⟩⟩
    · have y2 : ¬ (i : Int) < (ns.length : Int) := by omega
      obtain rfl : i = ns.length := by omega
      go_upto_region 8 with (fail)
      have e0 := fun d os => cell_regrown (w := wr) (a := ⟨w.heap.size, 0, none⟩) (v := .slice A0 s.lim.length c0) (by have := blk_cell K0.out 0; simpa using this) d os
      have e1 := fun d os => cell_regrown (w := wr) (a := ⟨w.heap.size, 1, none⟩) (v := .slice A1 s.start.length c1) (by have := blk_cell K0.out 1; simpa using this) d os
      have e2 := fun d os => cell_regrown (w := wr) (a := ⟨w.heap.size, 2, none⟩) (v := .slice A2 s.modes.length c2) (by have := blk_cell K0.out 2; simpa using this) d os
      have e3 := fun d os => cell_regrown (w := wr) (a := ⟨w.heap.size, 3, none⟩) (v := .slice A3 s.loads.length c3) (by have := blk_cell K0.out 3; simpa using this) d os
      obtain ⟨v, hv⟩ : ∃ v, v = proveR s cost ns := ⟨_, rfl⟩
      have H12 := Aside0.mk (fun d os => Calls.regrown_of (show Calls Try.prog 12 #[sysV s A0 A1 A2 A3 c0 c1 c2 c3, .int .i64 cost, .slice N ns.length cn] (grow (redrawn wr d) os) _ from by
        have h := Prove_calls s A0 A1 A2 A3 c0 c1 c2 c3 cost N cn ns (grow (redrawn wr d) os) ((HS.out.below HB.out).below (below_regrown wr d os)) (Kd.C_below (Kd.C_below HN.out HB.out) (below_regrown wr d os))
        rw [proveE_R, ← hv] at h
        exact h))
      have H13 := Aside0.mk (fun d os => Calls.regrown_of (show Calls Try.prog 13 #[sysV s A0 A1 A2 A3 c0 c1 c2 c3, .int .i64 cost, .slice N ns.length cn] (grow (redrawn wr d) os) _ from by
        have h := ProveR_calls s A0 A1 A2 A3 c0 c1 c2 c3 cost N cn ns (grow (redrawn wr d) os) ((HS.out.below HB.out).below (below_regrown wr d os)) (Kd.C_below (Kd.C_below HN.out HB.out) (below_regrown wr d os)) HCN.out
        rw [← hv] at h
        exact h))
      have H11 := Aside0.mk (fun d os => Calls.regrown_of (works_calls (grow (redrawn wr d) os)))
      clear hv
      refine wp_region_quiet_below (by kernel_rfl) (by kernel_rfl) ?_
      repeat (go_big_quiet_step (first | exact H12.out _ _ | exact H13.out _ _ | exact H11.out _ _))
      refine wpQuiet_nil ?_
      rintro w5 ⟨p5, hw5⟩
      have hb5 := below_regrown wr p5.d p5.os
      rw [← hw5] at hb5
      have HB5 := Aside0.mk (below_step HB.out hb5)
      clear hw5 hb5 e0 e1 e2 e3
      go_wp2_with fail
      go_ret
      exact ⟨rfl, HB5.out⟩
end Go.Proofs.Ytppdckjgdamlnaa

namespace Go.Proofs.Ytppdckjgdamlnaa
open Go.RowKit Go.Proofs.YtppdckjgdamlnaaW.PrintWords Go.Proofs.YtppdckjgdamlnaaW.PrintLast Go.Proofs.YtppdckjgdamlnaaW.PrintMore Q Go.Shelf

/-- whatever cells read as data of type t are those of a value of the kind -/
def Opens {α : Type} (t : TypeId) (K : Kd α) : Prop :=
  ∀ {H : Type} (enc : TypeId × Value → H) (W : World) (fuel : Nat) (cs : List Value) (x : DataW H × List MemPlace), DataW.trod enc Try.prog W 0 (fun _ => true) true fuel t cs = some x → ∃ a, K.K W a cs
theorem opens_int {t : TypeId} (ht : Try.prog.underlying t = some (.int .i64)) : Opens t (Kd.int .i64) := by
  intro H enc W fuel cs x h
  obtain ⟨n, rfl, _, _⟩ := DataW.trod_int ht h
  exact ⟨n, rfl⟩
theorem opens_slice {α : Type} [Inhabited α] {t e : TypeId} {K : Kd α} (ht : Try.prog.underlying t = some (.slice e)) (hs : Try.prog.cellsOf e = K.sz) (hO : Opens e K) : Opens t (Kd.slice e K) := by
  intro H enc W fuel cs x h
  rcases Deep.open_slice ht h with ⟨rfl, _⟩ | ⟨a, len, cap, m, n, D, Pl, rfl, hb, hl, hm, hmm, _, hel⟩
  · exact ⟨[], none, 0, rfl, Nat.le_refl _, rfl, Nat.zero_le _, fun h => absurd h (Nat.lt_irrefl _)⟩
  · have hlm : len ≤ m := by rw [hmm, if_pos rfl]; exact hl
    obtain ⟨f, hf⟩ := Deep.choose_lt (n := len) (p := fun i p => ∃ c, W.cells? 0 (a.add (i * Try.prog.cellsOf e)) (Try.prog.cellsOf e) = some c ∧ K.K W p c) fun i hi => by
      obtain ⟨c, h1, h2⟩ := hel i (by omega)
      obtain ⟨p, hp⟩ := hO enc W n c _ h2
      exact ⟨p, c, h1, hp⟩
    have hl' : ((List.range len).map f).length = len := by simp
    unfold maxLen at hm
    refine ⟨(List.range len).map f, some a, cap, by rw [hl'], by omega, rfl, by omega, fun _ => ⟨a, rfl, fun j p hj => ?_⟩⟩
    rw [List.getElem?_map] at hj
    obtain ⟨i, hi, rfl⟩ := Option.map_eq_some_iff.1 hj
    obtain ⟨hj1, rfl⟩ := List.getElem?_eq_some_iff.1 hi
    simp only [List.length_range] at hj1
    rw [List.getElem_range]
    obtain ⟨c, h1, h2⟩ := hf j hj1
    obtain ⟨_, hcl, hc⟩ := World.cells?_some h1
    refine ⟨c, by rw [hcl, hs], h2, fun i u hu => ?_⟩
    have hi := (List.getElem?_eq_some_iff.1 hu).1
    have h3 := hc i (by omega)
    rw [Deep.add_add, hu, hs] at h3
    exact h3
instance : Inhabited S48 := ⟨z48⟩
instance : Inhabited S99 := ⟨z99⟩
instance : Inhabited S53 := ⟨z53⟩
instance : Inhabited S31 := ⟨z31⟩
theorem cells_2 : Try.prog.cellsOf 2 = 1 := by kernel_rfl
theorem cells_3 : Try.prog.cellsOf 3 = 1 := by kernel_rfl
theorem cells_22 : Try.prog.cellsOf 22 = 1 := by kernel_rfl
theorem cells_50 : Try.prog.cellsOf 50 = 1 := by kernel_rfl
theorem cells_51 : Try.prog.cellsOf 51 = 1 := by kernel_rfl
theorem cells_48 : Try.prog.cellsOf 48 = 2 := by kernel_rfl
theorem cells_99 : Try.prog.cellsOf 99 = 3 := by kernel_rfl
theorem cells_53 : Try.prog.cellsOf 53 = 3 := by kernel_rfl
theorem cells_31 : Try.prog.cellsOf 31 = 3 := by kernel_rfl
theorem list2 {l : List Value} (h : l.length = 2) : ∃ a b, l = [a, b] := by
  match l, h with
  | [a, b], _ => exact ⟨a, b, rfl⟩
theorem list3 {l : List Value} (h : l.length = 3) : ∃ a b c, l = [a, b, c] := by
  match l, h with
  | [a, b, c], _ => exact ⟨a, b, c, rfl⟩
theorem opens_48 : Opens 48 k48 := by
  intro H enc W fuel cs x h
  obtain ⟨y0, y1, n, _, hl, h0, h1⟩ := Go.ChangeShapes.trod_struct2 Try.underlying48 h
  obtain ⟨c0, c1, rfl⟩ := list2 (hl.trans cells_48)
  simp only [cells_2, List.drop_zero, List.drop_succ_cons, List.take_succ_cons, List.take_zero] at h0 h1
  obtain ⟨a, ha⟩ := opens_int Try.underlying2 enc W n _ _ h0
  obtain ⟨b, hb⟩ := opens_int Try.underlying2 enc W n _ _ h1
  exact ⟨⟨a, b⟩, [c0], [c1], rfl, ha, hb⟩
theorem opens_99 : Opens 99 k99 := by
  intro H enc W fuel cs x h
  obtain ⟨y0, y1, y2, n, _, hl, h0, h1, h2⟩ := Deep.trod_struct3 Try.underlying99 h
  obtain ⟨c0, c1, c2, rfl⟩ := list3 (hl.trans cells_99)
  simp only [cells_2, cells_3, List.drop_zero, List.drop_succ_cons, List.take_succ_cons, List.take_zero] at h0 h1 h2
  obtain ⟨a, ha⟩ := opens_int Try.underlying3 enc W n _ _ h0
  obtain ⟨b, hb⟩ := opens_int Try.underlying3 enc W n _ _ h1
  obtain ⟨c, hc⟩ := opens_int Try.underlying2 enc W n _ _ h2
  exact ⟨⟨a, b, c⟩, [c0], [c1, c2], rfl, ha, [c1], [c2], rfl, hb, hc⟩
theorem opens_22 : Opens 22 (Kd.slice 48 k48) := opens_slice Try.underlying22 cells_48 opens_48
theorem opens_50 : Opens 50 (Kd.slice 2 (Kd.int .i64)) := opens_slice Try.underlying50 cells_2 (opens_int Try.underlying2)
theorem opens_51 : Opens 51 (Kd.slice 99 k99) := opens_slice Try.underlying51 cells_99 opens_99
theorem opens_53 : Opens 53 k53 := by
  intro H enc W fuel cs x h
  obtain ⟨y0, y1, y2, n, _, hl, h0, h1, h2⟩ := Deep.trod_struct3 Try.underlying53 h
  obtain ⟨c0, c1, c2, rfl⟩ := list3 (hl.trans cells_53)
  simp only [cells_2, cells_50, cells_51, List.drop_zero, List.drop_succ_cons, List.take_succ_cons, List.take_zero] at h0 h1 h2
  obtain ⟨a, ha⟩ := opens_int Try.underlying2 enc W n _ _ h0
  obtain ⟨b, hb⟩ := opens_50 enc W n _ _ h1
  obtain ⟨c, hc⟩ := opens_51 enc W n _ _ h2
  exact ⟨⟨a, b, c⟩, [c0], [c1, c2], rfl, ha, [c1], [c2], rfl, hb, hc⟩
theorem opens_31 : Opens 31 k31 := by
  intro H enc W fuel cs x h
  obtain ⟨y0, y1, y2, n, _, hl, h0, h1, h2⟩ := Deep.trod_struct3 Try.underlying31 h
  obtain ⟨c0, c1, c2, rfl⟩ := list3 (hl.trans cells_31)
  simp only [cells_2, cells_3, cells_22, List.drop_zero, List.drop_succ_cons, List.take_succ_cons, List.take_zero] at h0 h1 h2
  obtain ⟨a, ha⟩ := opens_int Try.underlying3 enc W n _ _ h0
  obtain ⟨b, hb⟩ := opens_22 enc W n _ _ h1
  obtain ⟨c, hc⟩ := opens_int Try.underlying2 enc W n _ _ h2
  exact ⟨⟨a, b, c⟩, [c0], [c1, c2], rfl, ha, [c1], [c2], rfl, hb, hc⟩
theorem opens_23 : Opens 23 (Kd.slice 53 k53) := opens_slice Try.underlying23 cells_53 opens_53
theorem opens_24 : Opens 24 (Kd.slice 22 (Kd.slice 48 k48)) := opens_slice Try.underlying24 cells_22 opens_22
theorem opens_27 : Opens 27 (Kd.slice 31 k31) := opens_slice Try.underlying27 cells_31 opens_31
theorem opens_36 : Opens 36 (Kd.slice 3 (Kd.int .i64)) := opens_slice Try.underlying36 cells_3 (opens_int Try.underlying3)

set_option maxRecDepth 100000 in
/-- a system that can be read -/
theorem open_sys {H : Type} {enc : TypeId × Value → H} {W : World} {r : Reach} {b0 : Nat} {v : Value} {d : DataW H} {p : List MemPlace} (hv : Value.okWide Try.prog W r b0 26 v) (h : DataW.Trod enc Try.prog W 0 (fun _ => true) true 26 v d p) :
    ∃ s A0 A1 A2 A3 c0 c1 c2 c3, v = sysV s A0 A1 A2 A3 c0 c1 c2 c3 ∧ SysAt W s A0 A1 A2 A3 c0 c1 c2 c3 := by
  obtain ⟨v0, v1, v2, v3, y0, y1, y2, y3, n, rfl, _, _, h0, h1, h2, h3⟩ := Joins.open_agg4 Try.underlying26 (by kernel_rfl) (by kernel_rfl) hv h
  obtain ⟨x0, A0, c0, e0, l0, g0⟩ := opens_22 enc W n _ _ h0
  obtain ⟨x1, A1, c1, e1, l1, g1⟩ := opens_22 enc W n _ _ h1
  obtain ⟨x2, A2, c2, e2, l2, g2⟩ := opens_23 enc W n _ _ h2
  obtain ⟨x3, A3, c3, e3, l3, g3⟩ := opens_24 enc W n _ _ h3
  injection e0 with e0 _
  injection e1 with e1 _
  injection e2 with e2 _
  injection e3 with e3 _
  subst e0 e1 e2 e3
  exact ⟨⟨x0, x1, x2, x3⟩, A0, A1, A2, A3, c0, c1, c2, c3, rfl, g0, g1, g2, g3, l0, l1, l2, l3⟩
set_option maxRecDepth 100000 in
/-- a list that can be read -/
theorem open_list {α : Type} {t e : TypeId} {K : Kd α} {H : Type} {enc : TypeId × Value → H} {W : World} {r : Reach} {b0 : Nat} {v : Value} {d : DataW H} {p : List MemPlace} (ht : Try.prog.underlying t = some (.slice e)) (hO : Opens t (Kd.slice e K))
    (hv : Value.okWide Try.prog W r b0 t v) (h : DataW.Trod enc Try.prog W 0 (fun _ => true) true t v d p) : ∃ (xs : List α) (A : Option Addr) (c : Nat), v = .slice A xs.length c ∧ xs.length ≤ c ∧ K.C W A xs.length xs := by
  obtain ⟨A, len, cap, rfl⟩ := WideShapes.okWide_slice ht hv
  obtain ⟨n, h⟩ := h
  obtain ⟨xs, A', c', e, l, g⟩ := hO enc W n _ _ h
  have e : Value.slice A len cap = .slice A' xs.length c' := by simpa [Value.cells] using e
  exact ⟨xs, A', c', e, l, g⟩
end Go.Proofs.Ytppdckjgdamlnaa
