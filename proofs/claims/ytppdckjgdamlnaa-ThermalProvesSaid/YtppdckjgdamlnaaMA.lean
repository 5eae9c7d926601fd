/- Contracts: quantity.is, quantity.valid's closure: what they return, the world being as it was or below. -/
import Derived.Test.YtppdckjgdamlnaaQ0
import Derived.Shelf.Abstract
import Derived.StillTailTactics
import Derived.Laws.EntriesVeiled
namespace Go.Proofs.Ytppdckjgdamlnaa
open Go.RowKit Go.Proofs.YtppdckjgdamlnaaW.PrintWords Go.Proofs.YtppdckjgdamlnaaW.PrintLast Go.Proofs.YtppdckjgdamlnaaW.PrintMore Q Go.Shelf

theorem getD_some {α : Type} {xs : List α} {k : Nat} {z : α} (h : k < xs.length) : xs[k]? = some (xs.getD k z) := by simp [List.getD_eq_getElem?_getD, h]
theorem at48 {w : World} {A : Option Addr} {n : Nat} {xs : List S48} (h : Kd.C k48 w A n xs) (k : Nat) (hk : k < n) : ∃ ad x, A = some ad ∧ Aside0 (xs[k]? = some x) ∧ w.cell? (ad.add (k * 2)) = some (.int .i64 x.f0) ∧ w.cell? ⟨(ad.add (k * 2)).block, (ad.add (k * 2)).off + 1, none⟩ = some (.int .i64 x.f1) := by
  obtain ⟨ad, e, h0, h1⟩ := at_T48 h k (by omega) (by omega)
  exact ⟨ad, _, e, ⟨getD_some (z := z48) (by rw [h.1]; exact hk)⟩, h0, h1⟩
theorem at99 {w : World} {A : Option Addr} {n : Nat} {xs : List S99} (h : Kd.C k99 w A n xs) (k : Nat) (hk : k < n) : ∃ ad x, A = some ad ∧ Aside0 (xs[k]? = some x) ∧ w.cell? (ad.add (k * 3)) = some (.int .i64 x.f0) ∧ w.cell? ⟨(ad.add (k * 3)).block, (ad.add (k * 3)).off + 1, none⟩ = some (.int .i64 x.f1) ∧ w.cell? ⟨(ad.add (k * 3)).block, (ad.add (k * 3)).off + 2, none⟩ = some (.int .i64 x.f2) := by
  obtain ⟨ad, e, h0, h1, h2⟩ := at_T99 h k (by omega) (by omega)
  exact ⟨ad, _, e, ⟨getD_some (z := z99) (by rw [h.1]; exact hk)⟩, h0, h1, h2⟩
theorem at53 {w : World} {A : Option Addr} {n : Nat} {xs : List S53} (h : Kd.C k53 w A n xs) (k : Nat) (hk : k < n) : ∃ ad x A1 c1 A2 c2, A = some ad ∧ Aside0 (xs[k]? = some x) ∧ w.cell? (ad.add (k * 3)) = some (.int .i64 x.f0) ∧ w.cell? ⟨(ad.add (k * 3)).block, (ad.add (k * 3)).off + 1, none⟩ = some (.slice A1 x.f1.length c1) ∧ w.cell? ⟨(ad.add (k * 3)).block, (ad.add (k * 3)).off + 2, none⟩ = some (.slice A2 x.f2.length c2) ∧ Aside0 (x.f1.length ≤ c1) ∧ Aside0 ((Kd.int .i64).C w A1 x.f1.length x.f1) ∧ Aside0 (x.f2.length ≤ c2) ∧ Aside0 (k99.C w A2 x.f2.length x.f2) := by
  obtain ⟨ad, A1, c1, A2, c2, e, h0, h1, h2, l1, g1, l2, g2⟩ := at_T53 h k (by omega) (by omega)
  exact ⟨ad, _, A1, c1, A2, c2, e, ⟨getD_some (z := z53) (by rw [h.1]; exact hk)⟩, h0, h1, h2, ⟨l1⟩, ⟨g1⟩, ⟨l2⟩, ⟨g2⟩⟩
theorem at31 {w : World} {A : Option Addr} {n : Nat} {xs : List S31} (h : Kd.C k31 w A n xs) (k : Nat) (hk : k < n) : ∃ ad x A1 c1, A = some ad ∧ Aside0 (xs[k]? = some x) ∧ w.cell? (ad.add (k * 3)) = some (.int .i64 x.f0) ∧ w.cell? ⟨(ad.add (k * 3)).block, (ad.add (k * 3)).off + 1, none⟩ = some (.slice A1 x.f1.length c1) ∧ w.cell? ⟨(ad.add (k * 3)).block, (ad.add (k * 3)).off + 2, none⟩ = some (.int .i64 x.f2) ∧ Aside0 (x.f1.length ≤ c1) ∧ Aside0 (k48.C w A1 x.f1.length x.f1) := by
  obtain ⟨ad, A1, c1, e, h0, h1, h2, l1, g1⟩ := at_T31 h k (by omega) (by omega)
  exact ⟨ad, _, A1, c1, e, ⟨getD_some (z := z31) (by rw [h.1]; exact hk)⟩, h0, h1, h2, ⟨l1⟩, ⟨g1⟩⟩
theorem atL48 {w : World} {A : Option Addr} {n : Nat} {xs : List (List S48)} (h : Kd.C (Kd.slice 48 k48) w A n xs) (k : Nat) (hk : k < n) : ∃ ad x A0 c0, A = some ad ∧ Aside0 (xs[k]? = some x) ∧ w.cell? (ad.add k) = some (.slice A0 x.length c0) ∧ Aside0 (x.length ≤ c0) ∧ Aside0 (k48.C w A0 x.length x) := by
  obtain ⟨ad, A0, c0, e, h0, l1, g1⟩ := at_L6 h k (by omega) (by omega)
  exact ⟨ad, _, A0, c0, e, ⟨getD_some (z := []) (by rw [h.1]; exact hk)⟩, h0, ⟨l1⟩, ⟨g1⟩⟩
theorem at_int {w : World} {A : Option Addr} {n : Nat} {xs : List Int} (h : (Kd.int .i64).C w A n xs) (k : Nat) (hk : k < n) : ∃ ad x, A = some ad ∧ Aside0 (xs[k]? = some x) ∧ w.cell? (ad.add k) = some (.int .i64 x) := by
  obtain ⟨ad, c, e, _, hK, hc0⟩ := Kd.C_get h 0 k (by omega) (by omega)
  have hc : ∀ j u, c[j]? = some u → w.cell? (ad.add (k * 1 + j)) = some u := hc0
  obtain rfl : c = [.int .i64 (xs.getD k 0)] := hK
  exact ⟨ad, _, e, ⟨getD_some (z := 0) (by rw [h.1]; exact hk)⟩, by have := hc 0 _ rfl; simpa using this⟩

/-- is a number a quantity? -/
def isQ (x : Int) : Bool := decide (-1099511627776 ≤ x) && decide (x ≤ 1099511627776)
/-- is a span valid? -/
def validSp (lo hi : Int) : Bool := isQ lo && isQ hi && !decide (hi < lo)

theorem ret_b {a b : Bool} (h : a = b) : Ending.returned (.bool a) = .returned (.bool b) := by rw [h]

theorem is_calls (x : Int) (w : World) : Calls Try.prog 79 #[.int .i64 x] w fun e w' => e = .returned (.bool (isQ x)) ∧ w = w' := by
  by_cases h1 : -1099511627776 ≤ x
  · go_enter Try.func79, Try.ntmps79
    go_wp2
    go_ret
    exact ⟨ret_b (by simp [isQ, h1]), rfl⟩
  · go_enter Try.func79, Try.ntmps79
    go_wp2
    go_ret
    exact ⟨ret_b (by simp [isQ]; omega), rfl⟩

theorem valid1_calls (lo hi : Int) (w : World) : Calls Try.prog 78 #[.agg #[.int .i64 lo, .int .i64 hi]] w fun e w' => e = .returned (.bool (!validSp lo hi)) ∧ Below w.heap.size w w' := by
  go_enter Try.func78, Try.ntmps78
  go_wp2_with (go_at_call 79; refine (is_calls _ _).mono ?_; rintro e w' ⟨rfl, rfl⟩)
  all_goals
    go_ret
    exact ⟨ret_b (by simp_all [validSp]), below_alloc (Below.refl _ _) _⟩

end Go.Proofs.Ytppdckjgdamlnaa

namespace Go.Proofs.Ytppdckjgdamlnaa
open Go.RowKit Go.Proofs.YtppdckjgdamlnaaW.PrintWords Go.Proofs.YtppdckjgdamlnaaW.PrintLast Go.Proofs.YtppdckjgdamlnaaW.PrintMore Q Go.Shelf

def encSp (_ : World) (x : S48) (v : Value) : Prop := v = .agg #[.int .i64 x.f0, .int .i64 x.f1]
def encLi (W : World) (x : List S48) (v : Value) : Prop := ∃ A c, v = .slice A x.length c ∧ x.length ≤ c ∧ k48.C W A x.length x
def encMo (W : World) (x : S53) (v : Value) : Prop := ∃ A1 c1 A2 c2, v = .agg #[.int .i64 x.f0, .slice A1 x.f1.length c1, .slice A2 x.f2.length c2] ∧ x.f1.length ≤ c1 ∧ (Kd.int .i64).C W A1 x.f1.length x.f1 ∧ x.f2.length ≤ c2 ∧ k99.C W A2 x.f2.length x.f2
def encI (_ : World) (x : Int) (v : Value) : Prop := v = .int .i64 x
def encJ (_ : World) (x : Int) (v : Value) : Prop := v = .int .i64 x

/-- What a predicate handed to slices.IndexFunc owes: at every element, in every later world, it answers p and leaves such a world. -/
def PredOn {α : Type} (g : Nat) (lb : Array Value) (enc : World → α → Value → Prop) (p : α → Bool) (w : World) (xs : List α) : Prop :=
  ∀ x ∈ xs, ∀ v W, Below w.heap.size w W → enc W x v → Calls Try.prog g (#[v] ++ lb) W fun e W' => e = .returned (.bool (p x)) ∧ Below W.heap.size W W'

def IdxOf {α : Type} (p : α → Bool) (xs : List α) (w : World) (e : Ending) (w' : World) : Prop := (∃ i : Int, e = .returned (.int .i64 i) ∧ (0 ≤ i ↔ xs.any p = true)) ∧ Below w.heap.size w w'

theorem any_hit {α : Type} (p : α → Bool) (xs : List α) (k : Nat) (x : α) (h : xs[k]? = some x) (hp : p x = true) : xs.any p = true := List.any_eq_true.2 ⟨x, List.mem_of_getElem? h, hp⟩
theorem any_miss {α : Type} (p : α → Bool) (xs : List α) (h : ∀ j, (hj : j < xs.length) → p xs[j] = false) : xs.any p = false := by
  rw [List.any_eq_false]
  intro x hx
  obtain ⟨j, hj, rfl⟩ := List.getElem_of_mem hx
  simp [h j hj]


set_option maxHeartbeats 1000000 in
theorem indexSp_calls (g : Nat) (lb : Array Value) (eg : ∀ args w, (callFunc g args).run Try.prog w = .ok (.enter g args) w) (p : S48 → Bool) (A : Option Addr) (c : Nat) (xs : List S48) (w : World)
    (hr : Kd.C k48 w A xs.length xs) (hp : PredOn g lb encSp p w xs) :
    Calls Try.prog 76 #[.slice A xs.length c, .func (.func g) #[] lb] w (IdxOf p xs w) := by
  have hl := hr.2.1
  go_enter Try.func76, Try.ntmps76
  go_wp2
  go_loopg [5, 8] xs.length (fun gg _ s8 wr => ∃ kk : Nat, kk ≤ xs.length ∧ xs.length - kk ≤ gg ∧ s8 = .int .i64 kk ∧ Aside0 (Below w.heap.size w wr) ∧ Aside0 (∀ j, (h : j < xs.length) → j < kk → p xs[j] = false))
  case atStart => exact ⟨0, Nat.zero_le _, by omega, rfl, ⟨Below.refl _ w⟩, ⟨fun j _ hj => absurd hj (Nat.not_lt_zero _)⟩⟩
  case round =>
    obtain ⟨kk, hkk, hg, rfl, BW, A0⟩ := hrel
    by_cases hlt : kk < xs.length
    · have hltz : (kk : Int) < (xs.length : Int) := by omega
      obtain ⟨ad, x, rfl, E0, hx0, hx1⟩ := at48 (Kd.C_below hr BW.out) kk hlt
      have hcall := hp x (List.mem_of_getElem? E0.out) _ wr BW.out rfl
      clear hr hp
      cases hq : p x with
      | true =>
        rw [hq] at hcall
        have HQ := Aside0.mk hq
        clear hq
        go_wp2_with (go_at_fn g; refine hcall.mono ?_; rintro e w' ⟨rfl, hb'⟩)
        go_ret
        exact ⟨⟨_, rfl, by simp [any_hit p xs kk x E0.out HQ.out]⟩, below_then BW.out BW.out.size hb'⟩
      | false =>
        rw [hq] at hcall
        have HQ := Aside0.mk hq
        clear hq
        go_wp2_with (go_at_fn g; refine hcall.mono ?_; rintro e w' ⟨rfl, hb'⟩)
        go_roundg (xs.length - (kk + 1))
        case measure => omega
        case rel =>
          refine ⟨kk + 1, by omega, by omega, by go_num, ⟨below_then BW.out BW.out.size hb'⟩, ⟨fun j h hj => ?_⟩⟩
          by_cases e : j = kk
          · subst e
            rw [List.getElem?_eq_getElem h] at E0
            cases E0.out; exact HQ.out
          · exact A0.out j h (by omega)
    · have hltz : ¬ (kk : Int) < (xs.length : Int) := by omega
      have : kk = xs.length := by omega
      subst this
      go_wp2
      go_ret
      exact ⟨⟨_, rfl, by simp [any_miss p xs (fun j hj => A0.out j hj hj)]⟩, BW.out⟩

theorem containsSp_calls (g : Nat) (lb : Array Value) (eg : ∀ args w, (callFunc g args).run Try.prog w = .ok (.enter g args) w) (p : S48 → Bool) (A : Option Addr) (c : Nat) (xs : List S48) (w : World)
    (hr : Kd.C k48 w A xs.length xs) (hp : PredOn g lb encSp p w xs) :
    Calls Try.prog 66 #[.slice A xs.length c, .func (.func g) #[] lb] w fun e w' => e = .returned (.bool (xs.any p)) ∧ Below w.heap.size w w' := by
  go_enter Try.func66, Try.ntmps66
  go_wp2_with (go_at_call 76; refine (indexSp_calls g lb eg p A c xs _ hr hp).mono ?_; rintro e w' ⟨⟨i, rfl, hi⟩, hb⟩; have HI := Aside0.mk hi; clear hi)
  go_ret
  exact ⟨ret_b (by rw [Bool.eq_iff_iff, ← HI.out]; simp), hb⟩


set_option maxHeartbeats 1000000 in
theorem indexLi_calls (g : Nat) (lb : Array Value) (eg : ∀ args w, (callFunc g args).run Try.prog w = .ok (.enter g args) w) (p : (List S48) → Bool) (A : Option Addr) (c : Nat) (xs : List (List S48)) (w : World)
    (hr : Kd.C (Kd.slice 48 k48) w A xs.length xs) (hp : PredOn g lb encLi p w xs) :
    Calls Try.prog 69 #[.slice A xs.length c, .func (.func g) #[] lb] w (IdxOf p xs w) := by
  have hl := hr.2.1
  go_enter Try.func69, Try.ntmps69
  go_wp2
  go_loopg [5, 8] xs.length (fun gg _ s8 wr => ∃ kk : Nat, kk ≤ xs.length ∧ xs.length - kk ≤ gg ∧ s8 = .int .i64 kk ∧ Aside0 (Below w.heap.size w wr) ∧ Aside0 (∀ j, (h : j < xs.length) → j < kk → p xs[j] = false))
  case atStart => exact ⟨0, Nat.zero_le _, by omega, rfl, ⟨Below.refl _ w⟩, ⟨fun j _ hj => absurd hj (Nat.not_lt_zero _)⟩⟩
  case round =>
    obtain ⟨kk, hkk, hg, rfl, BW, A0⟩ := hrel
    by_cases hlt : kk < xs.length
    · have hltz : (kk : Int) < (xs.length : Int) := by omega
      obtain ⟨ad, x, A0_, c0_, rfl, E0, hx0, hl0, hr0⟩ := atL48 (Kd.C_below hr BW.out) kk hlt
      have hcall := hp x (List.mem_of_getElem? E0.out) _ wr BW.out ⟨A0_, c0_, rfl, hl0.out, hr0.out⟩
      clear hr hp
      cases hq : p x with
      | true =>
        rw [hq] at hcall
        have HQ := Aside0.mk hq
        clear hq
        go_wp2_with (go_at_fn g; refine hcall.mono ?_; rintro e w' ⟨rfl, hb'⟩)
        go_ret
        exact ⟨⟨_, rfl, by simp [any_hit p xs kk x E0.out HQ.out]⟩, below_then BW.out BW.out.size hb'⟩
      | false =>
        rw [hq] at hcall
        have HQ := Aside0.mk hq
        clear hq
        go_wp2_with (go_at_fn g; refine hcall.mono ?_; rintro e w' ⟨rfl, hb'⟩)
        go_roundg (xs.length - (kk + 1))
        case measure => omega
        case rel =>
          refine ⟨kk + 1, by omega, by omega, by go_num, ⟨below_then BW.out BW.out.size hb'⟩, ⟨fun j h hj => ?_⟩⟩
          by_cases e : j = kk
          · subst e
            rw [List.getElem?_eq_getElem h] at E0
            cases E0.out; exact HQ.out
          · exact A0.out j h (by omega)
    · have hltz : ¬ (kk : Int) < (xs.length : Int) := by omega
      have : kk = xs.length := by omega
      subst this
      go_wp2
      go_ret
      exact ⟨⟨_, rfl, by simp [any_miss p xs (fun j hj => A0.out j hj hj)]⟩, BW.out⟩

theorem containsLi_calls (g : Nat) (lb : Array Value) (eg : ∀ args w, (callFunc g args).run Try.prog w = .ok (.enter g args) w) (p : (List S48) → Bool) (A : Option Addr) (c : Nat) (xs : List (List S48)) (w : World)
    (hr : Kd.C (Kd.slice 48 k48) w A xs.length xs) (hp : PredOn g lb encLi p w xs) :
    Calls Try.prog 50 #[.slice A xs.length c, .func (.func g) #[] lb] w fun e w' => e = .returned (.bool (xs.any p)) ∧ Below w.heap.size w w' := by
  go_enter Try.func50, Try.ntmps50
  go_wp2_with (go_at_call 69; refine (indexLi_calls g lb eg p A c xs _ hr hp).mono ?_; rintro e w' ⟨⟨i, rfl, hi⟩, hb⟩; have HI := Aside0.mk hi; clear hi)
  go_ret
  exact ⟨ret_b (by rw [Bool.eq_iff_iff, ← HI.out]; simp), hb⟩


set_option maxHeartbeats 1000000 in
theorem indexMo_calls (g : Nat) (lb : Array Value) (eg : ∀ args w, (callFunc g args).run Try.prog w = .ok (.enter g args) w) (p : S53 → Bool) (A : Option Addr) (c : Nat) (xs : List S53) (w : World)
    (hr : Kd.C k53 w A xs.length xs) (hp : PredOn g lb encMo p w xs) :
    Calls Try.prog 70 #[.slice A xs.length c, .func (.func g) #[] lb] w (IdxOf p xs w) := by
  have hl := hr.2.1
  go_enter Try.func70, Try.ntmps70
  go_wp2
  go_loopg [5, 8] xs.length (fun gg _ s8 wr => ∃ kk : Nat, kk ≤ xs.length ∧ xs.length - kk ≤ gg ∧ s8 = .int .i64 kk ∧ Aside0 (Below w.heap.size w wr) ∧ Aside0 (∀ j, (h : j < xs.length) → j < kk → p xs[j] = false))
  case atStart => exact ⟨0, Nat.zero_le _, by omega, rfl, ⟨Below.refl _ w⟩, ⟨fun j _ hj => absurd hj (Nat.not_lt_zero _)⟩⟩
  case round =>
    obtain ⟨kk, hkk, hg, rfl, BW, A0⟩ := hrel
    by_cases hlt : kk < xs.length
    · have hltz : (kk : Int) < (xs.length : Int) := by omega
      obtain ⟨ad, x, A1_, c1_, A2_, c2_, rfl, E0, hx0, hx1, hx2, hl1, hr1, hl2, hr2⟩ := at53 (Kd.C_below hr BW.out) kk hlt
      have hcall := hp x (List.mem_of_getElem? E0.out) _ wr BW.out ⟨A1_, c1_, A2_, c2_, rfl, hl1.out, hr1.out, hl2.out, hr2.out⟩
      clear hr hp
      cases hq : p x with
      | true =>
        rw [hq] at hcall
        have HQ := Aside0.mk hq
        clear hq
        go_wp2_with (go_at_fn g; refine hcall.mono ?_; rintro e w' ⟨rfl, hb'⟩)
        go_ret
        exact ⟨⟨_, rfl, by simp [any_hit p xs kk x E0.out HQ.out]⟩, below_then BW.out BW.out.size hb'⟩
      | false =>
        rw [hq] at hcall
        have HQ := Aside0.mk hq
        clear hq
        go_wp2_with (go_at_fn g; refine hcall.mono ?_; rintro e w' ⟨rfl, hb'⟩)
        go_roundg (xs.length - (kk + 1))
        case measure => omega
        case rel =>
          refine ⟨kk + 1, by omega, by omega, by go_num, ⟨below_then BW.out BW.out.size hb'⟩, ⟨fun j h hj => ?_⟩⟩
          by_cases e : j = kk
          · subst e
            rw [List.getElem?_eq_getElem h] at E0
            cases E0.out; exact HQ.out
          · exact A0.out j h (by omega)
    · have hltz : ¬ (kk : Int) < (xs.length : Int) := by omega
      have : kk = xs.length := by omega
      subst this
      go_wp2
      go_ret
      exact ⟨⟨_, rfl, by simp [any_miss p xs (fun j hj => A0.out j hj hj)]⟩, BW.out⟩

theorem containsMo_calls (g : Nat) (lb : Array Value) (eg : ∀ args w, (callFunc g args).run Try.prog w = .ok (.enter g args) w) (p : S53 → Bool) (A : Option Addr) (c : Nat) (xs : List S53) (w : World)
    (hr : Kd.C k53 w A xs.length xs) (hp : PredOn g lb encMo p w xs) :
    Calls Try.prog 52 #[.slice A xs.length c, .func (.func g) #[] lb] w fun e w' => e = .returned (.bool (xs.any p)) ∧ Below w.heap.size w w' := by
  go_enter Try.func52, Try.ntmps52
  go_wp2_with (go_at_call 70; refine (indexMo_calls g lb eg p A c xs _ hr hp).mono ?_; rintro e w' ⟨⟨i, rfl, hi⟩, hb⟩; have HI := Aside0.mk hi; clear hi)
  go_ret
  exact ⟨ret_b (by rw [Bool.eq_iff_iff, ← HI.out]; simp), hb⟩


set_option maxHeartbeats 1000000 in
theorem indexI_calls (g : Nat) (lb : Array Value) (eg : ∀ args w, (callFunc g args).run Try.prog w = .ok (.enter g args) w) (p : Int → Bool) (A : Option Addr) (c : Nat) (xs : List Int) (w : World)
    (hr : Kd.C (Kd.int .i64) w A xs.length xs) (hp : PredOn g lb encI p w xs) :
    Calls Try.prog 75 #[.slice A xs.length c, .func (.func g) #[] lb] w (IdxOf p xs w) := by
  have hl := hr.2.1
  go_enter Try.func75, Try.ntmps75
  go_wp2
  go_loopg [5, 8] xs.length (fun gg _ s8 wr => ∃ kk : Nat, kk ≤ xs.length ∧ xs.length - kk ≤ gg ∧ s8 = .int .i64 kk ∧ Aside0 (Below w.heap.size w wr) ∧ Aside0 (∀ j, (h : j < xs.length) → j < kk → p xs[j] = false))
  case atStart => exact ⟨0, Nat.zero_le _, by omega, rfl, ⟨Below.refl _ w⟩, ⟨fun j _ hj => absurd hj (Nat.not_lt_zero _)⟩⟩
  case round =>
    obtain ⟨kk, hkk, hg, rfl, BW, A0⟩ := hrel
    by_cases hlt : kk < xs.length
    · have hltz : (kk : Int) < (xs.length : Int) := by omega
      obtain ⟨ad, x, rfl, E0, hx0⟩ := at_int (Kd.C_below hr BW.out) kk hlt
      have hcall := hp x (List.mem_of_getElem? E0.out) _ wr BW.out rfl
      clear hr hp
      cases hq : p x with
      | true =>
        rw [hq] at hcall
        have HQ := Aside0.mk hq
        clear hq
        go_wp2_with (go_at_fn g; refine hcall.mono ?_; rintro e w' ⟨rfl, hb'⟩)
        go_ret
        exact ⟨⟨_, rfl, by simp [any_hit p xs kk x E0.out HQ.out]⟩, below_then BW.out BW.out.size hb'⟩
      | false =>
        rw [hq] at hcall
        have HQ := Aside0.mk hq
        clear hq
        go_wp2_with (go_at_fn g; refine hcall.mono ?_; rintro e w' ⟨rfl, hb'⟩)
        go_roundg (xs.length - (kk + 1))
        case measure => omega
        case rel =>
          refine ⟨kk + 1, by omega, by omega, by go_num, ⟨below_then BW.out BW.out.size hb'⟩, ⟨fun j h hj => ?_⟩⟩
          by_cases e : j = kk
          · subst e
            rw [List.getElem?_eq_getElem h] at E0
            cases E0.out; exact HQ.out
          · exact A0.out j h (by omega)
    · have hltz : ¬ (kk : Int) < (xs.length : Int) := by omega
      have : kk = xs.length := by omega
      subst this
      go_wp2
      go_ret
      exact ⟨⟨_, rfl, by simp [any_miss p xs (fun j hj => A0.out j hj hj)]⟩, BW.out⟩

theorem containsI_calls (g : Nat) (lb : Array Value) (eg : ∀ args w, (callFunc g args).run Try.prog w = .ok (.enter g args) w) (p : Int → Bool) (A : Option Addr) (c : Nat) (xs : List Int) (w : World)
    (hr : Kd.C (Kd.int .i64) w A xs.length xs) (hp : PredOn g lb encI p w xs) :
    Calls Try.prog 63 #[.slice A xs.length c, .func (.func g) #[] lb] w fun e w' => e = .returned (.bool (xs.any p)) ∧ Below w.heap.size w w' := by
  go_enter Try.func63, Try.ntmps63
  go_wp2_with (go_at_call 75; refine (indexI_calls g lb eg p A c xs _ hr hp).mono ?_; rintro e w' ⟨⟨i, rfl, hi⟩, hb⟩; have HI := Aside0.mk hi; clear hi)
  go_ret
  exact ⟨ret_b (by rw [Bool.eq_iff_iff, ← HI.out]; simp), hb⟩


set_option maxHeartbeats 1000000 in
theorem indexJ_calls (g : Nat) (lb : Array Value) (eg : ∀ args w, (callFunc g args).run Try.prog w = .ok (.enter g args) w) (p : Int → Bool) (A : Option Addr) (c : Nat) (xs : List Int) (w : World)
    (hr : Kd.C (Kd.int .i64) w A xs.length xs) (hp : PredOn g lb encJ p w xs) :
    Calls Try.prog 77 #[.slice A xs.length c, .func (.func g) #[] lb] w (IdxOf p xs w) := by
  have hl := hr.2.1
  go_enter Try.func77, Try.ntmps77
  go_wp2
  go_loopg [5, 8] xs.length (fun gg _ s8 wr => ∃ kk : Nat, kk ≤ xs.length ∧ xs.length - kk ≤ gg ∧ s8 = .int .i64 kk ∧ Aside0 (Below w.heap.size w wr) ∧ Aside0 (∀ j, (h : j < xs.length) → j < kk → p xs[j] = false))
  case atStart => exact ⟨0, Nat.zero_le _, by omega, rfl, ⟨Below.refl _ w⟩, ⟨fun j _ hj => absurd hj (Nat.not_lt_zero _)⟩⟩
  case round =>
    obtain ⟨kk, hkk, hg, rfl, BW, A0⟩ := hrel
    by_cases hlt : kk < xs.length
    · have hltz : (kk : Int) < (xs.length : Int) := by omega
      obtain ⟨ad, x, rfl, E0, hx0⟩ := at_int (Kd.C_below hr BW.out) kk hlt
      have hcall := hp x (List.mem_of_getElem? E0.out) _ wr BW.out rfl
      clear hr hp
      cases hq : p x with
      | true =>
        rw [hq] at hcall
        have HQ := Aside0.mk hq
        clear hq
        go_wp2_with (go_at_fn g; refine hcall.mono ?_; rintro e w' ⟨rfl, hb'⟩)
        go_ret
        exact ⟨⟨_, rfl, by simp [any_hit p xs kk x E0.out HQ.out]⟩, below_then BW.out BW.out.size hb'⟩
      | false =>
        rw [hq] at hcall
        have HQ := Aside0.mk hq
        clear hq
        go_wp2_with (go_at_fn g; refine hcall.mono ?_; rintro e w' ⟨rfl, hb'⟩)
        go_roundg (xs.length - (kk + 1))
        case measure => omega
        case rel =>
          refine ⟨kk + 1, by omega, by omega, by go_num, ⟨below_then BW.out BW.out.size hb'⟩, ⟨fun j h hj => ?_⟩⟩
          by_cases e : j = kk
          · subst e
            rw [List.getElem?_eq_getElem h] at E0
            cases E0.out; exact HQ.out
          · exact A0.out j h (by omega)
    · have hltz : ¬ (kk : Int) < (xs.length : Int) := by omega
      have : kk = xs.length := by omega
      subst this
      go_wp2
      go_ret
      exact ⟨⟨_, rfl, by simp [any_miss p xs (fun j hj => A0.out j hj hj)]⟩, BW.out⟩

theorem containsJ_calls (g : Nat) (lb : Array Value) (eg : ∀ args w, (callFunc g args).run Try.prog w = .ok (.enter g args) w) (p : Int → Bool) (A : Option Addr) (c : Nat) (xs : List Int) (w : World)
    (hr : Kd.C (Kd.int .i64) w A xs.length xs) (hp : PredOn g lb encJ p w xs) :
    Calls Try.prog 71 #[.slice A xs.length c, .func (.func g) #[] lb] w fun e w' => e = .returned (.bool (xs.any p)) ∧ Below w.heap.size w w' := by
  go_enter Try.func71, Try.ntmps71
  go_wp2_with (go_at_call 77; refine (indexJ_calls g lb eg p A c xs _ hr hp).mono ?_; rintro e w' ⟨⟨i, rfl, hi⟩, hb⟩; have HI := Aside0.mk hi; clear hi)
  go_ret
  exact ⟨ret_b (by rw [Bool.eq_iff_iff, ← HI.out]; simp), hb⟩

end Go.Proofs.Ytppdckjgdamlnaa

namespace Go.Proofs.Ytppdckjgdamlnaa
open Go.RowKit Go.Proofs.YtppdckjgdamlnaaW.PrintWords Go.Proofs.YtppdckjgdamlnaaW.PrintLast Go.Proofs.YtppdckjgdamlnaaW.PrintMore Q Go.Shelf

def validS (x : S48) : Bool := validSp x.f0 x.f1

theorem all_not_any {α : Type} (p : α → Bool) (xs : List α) : (!(xs.any fun x => !p x)) = xs.all p := by
  induction xs with
  | nil => rfl
  | cons x xs ih => simp only [List.any_cons, List.all_cons, Bool.not_or, Bool.not_not, ih]

theorem valid_calls (A : Option Addr) (c : Nat) (xs : List S48) (w : World) (hr : Kd.C k48 w A xs.length xs) :
    Calls Try.prog 73 #[.slice A xs.length c] w fun e w' => e = .returned (.bool (xs.all validS)) ∧ Below w.heap.size w w' := by
  have hp : PredOn 78 #[] encSp (fun x => !validS x) w xs := fun x _ v W hb hv => by
    cases hv
    exact valid1_calls x.f0 x.f1 W
  go_enter Try.func73, Try.ntmps73
  go_wp2_with (go_at_call 66; refine (containsSp_calls 78 #[] (enters_of Try.func78 (by kernel_rfl) rfl) (fun x => !validS x) A c xs _ hr hp).mono ?_; rintro e w' ⟨rfl, hb⟩)
  go_ret
  exact ⟨ret_b (all_not_any _ _), hb⟩

theorem bcell {W w1 : World} (hb : Below W.heap.size W w1) : (∀ b o, b < W.heap.size → w1.cell? ⟨b, o, none⟩ = W.cell? ⟨b, o, none⟩) ∧ (∀ b o, b < W.heap.size → w1.frozen? ⟨b, o, none⟩ = W.frozen? ⟨b, o, none⟩) :=
  ⟨fun b o h => hb.cell (p := ⟨b, o, none⟩) h, fun b o h => hb.frozen (p := ⟨b, o, none⟩) h⟩

def insideS (a b : S48) : Bool := validS a && validS b && decide (b.f0 ≤ a.f0) && decide (a.f1 ≤ b.f1)

theorem two48 (W : World) (a b : S48) : Kd.C k48 (W.alloc (.cells #[.int .i64 a.f0, .int .i64 a.f1, .int .i64 b.f0, .int .i64 b.f1] 48)) (some ⟨W.heap.size, 0, none⟩) 2 [a, b] := by
  have hc : ∀ j u, (#[Value.int .i64 a.f0, .int .i64 a.f1, .int .i64 b.f0, .int .i64 b.f1] : Array Value)[j]? = some u → (W.alloc (.cells #[.int .i64 a.f0, .int .i64 a.f1, .int .i64 b.f0, .int .i64 b.f1] 48)).cell? ⟨W.heap.size, j, none⟩ = some u := fun j u h => by
    rw [blk_cell (heap_alloc_new W _)]; exact h
  refine ⟨rfl, by simp, fun _ => ⟨_, rfl, fun j p hp => ?_⟩⟩
  match j, hp with
  | 0, hp =>
    cases hp
    refine ⟨[.int .i64 a.f0, .int .i64 a.f1], rfl, k48_mk _ a, fun i u hu => ?_⟩
    rw [add_plain]
    match i, hu with
    | 0, hu => exact hc _ _ hu
    | 1, hu => exact hc _ _ hu
  | 1, hp =>
    cases hp
    refine ⟨[.int .i64 b.f0, .int .i64 b.f1], rfl, k48_mk _ b, fun i u hu => ?_⟩
    rw [add_plain]
    match i, hu with
    | 0, hu => exact hc _ _ hu
    | 1, hu => exact hc _ _ hu

theorem valid2_calls (a b : S48) (A : Option Addr) (w : World) (hr : Kd.C k48 w A 2 [a, b]) :
    Calls Try.prog 73 #[.slice A 2 2] w fun e w' => e = .returned (.bool (validS a && validS b)) ∧ Below w.heap.size w w' :=
  (valid_calls A 2 [a, b] w hr).mono fun e w' ⟨he, hb⟩ => ⟨by rw [he]; simp, hb⟩

theorem Inside_calls (a b : S48) (w : World) : Calls Try.prog 55 #[.agg #[.int .i64 a.f0, .int .i64 a.f1], .agg #[.int .i64 b.f0, .int .i64 b.f1]] w fun e w' => e = .returned (.bool (insideS a b)) ∧ Below w.heap.size w w' := by
  go_enter Try.func55, Try.ntmps55
  go_wp2_with (go_at_call 73; refine (valid2_calls a b _ _ ?hr).mono ?_; (case hr => have := two48 ((w.alloc (.cells #[.int .i64 a.f0, .int .i64 a.f1] 48)).alloc (.cells #[.int .i64 b.f0, .int .i64 b.f1] 48)) a b; simpa using this); rintro e w' ⟨rfl, hb⟩; obtain ⟨hc, hf⟩ := bcell hb; have HB := Aside0.mk hb; clear hb hf)
  all_goals
    go_ret
    exact ⟨ret_b (by clear hc; simp_all [insideS] <;> omega), below_step (below_alloc (below_alloc (below_alloc (Below.refl _ _) _) _) _) HB.out⟩

theorem within1_calls (x l : S48) (B : Nat) (w : World) (hB : B < w.heap.size) (h0 : w.cell? ⟨B, 0, none⟩ = some (.int .i64 l.f0)) (h1 : w.cell? ⟨B, 1, none⟩ = some (.int .i64 l.f1)) :
    Calls Try.prog 67 #[.agg #[.int .i64 x.f0, .int .i64 x.f1], .pointer (some ⟨B, 0, none⟩)] w fun e w' => e = .returned (.bool (!insideS x l)) ∧ Below w.heap.size w w' := by
  go_enter Try.func67, Try.ntmps67
  go_wp2_with (go_at_call 55; refine (Inside_calls x l _).mono ?_; rintro e w' ⟨rfl, hb⟩; have HB := Aside0.mk hb; clear hb)
  go_ret
  exact ⟨rfl, below_step (below_alloc (Below.refl _ _) _) HB.out⟩

def withinB (xs : List S48) (most : Int) : Bool := xs.all fun x => insideS x ⟨-most, most⟩

theorem within_calls (A : Option Addr) (c : Nat) (xs : List S48) (most : Int) (hm0 : 0 ≤ most) (hm : most ≤ 1099511627776) (w : World) (hr : Kd.C k48 w A xs.length xs) :
    Calls Try.prog 47 #[.slice A xs.length c, .int .i64 most] w fun e w' => e = .returned (.bool (withinB xs most)) ∧ Below w.heap.size w w' := by
  obtain ⟨W, hW⟩ : ∃ W, W = w.alloc (.cells #[.int .i64 (-most), .int .i64 most] 48) := ⟨_, rfl⟩
  have hn : W.heap[w.heap.size]? = some (.cells #[.int .i64 (-most), .int .i64 most] 48 (0, 0)) := by rw [hW]; exact heap_alloc_new w _
  have hp : PredOn 67 #[.pointer (some ⟨w.heap.size, 0, none⟩)] encSp (fun x => !insideS x ⟨-most, most⟩) W xs := fun x _ v W' hb hv => by
    cases hv
    have hn' := (hb.block _ (blk_lt hn)).trans hn
    exact within1_calls x ⟨-most, most⟩ _ W' (blk_lt hn') (by rw [blk_cell hn']; rfl) (by rw [blk_cell hn']; rfl)
  have hr' : Kd.C k48 W A xs.length xs := by rw [hW]; exact Kd.C_alloc hr _
  have HC := Aside0.mk (containsSp_calls 67 _ (enters_of Try.func67 (by kernel_rfl) rfl) _ A c xs _ hr' hp)
  clear hp hn hr hr'
  rw [hW] at HC
  clear hW
  go_enter Try.func47, Try.ntmps47
  go_wp2_with (go_at_call 66; refine HC.out.mono ?_; rintro e w' ⟨rfl, hb⟩; have HB := Aside0.mk hb; clear hb)
  go_ret
  exact ⟨ret_b (all_not_any _ _), below_step (below_alloc (Below.refl _ _) _) HB.out⟩
end Go.Proofs.Ytppdckjgdamlnaa

namespace Go.Proofs.Ytppdckjgdamlnaa
open Go.RowKit Go.Proofs.YtppdckjgdamlnaaW.PrintWords Go.Proofs.YtppdckjgdamlnaaW.PrintLast Go.Proofs.YtppdckjgdamlnaaW.PrintMore Q Go.Shelf

/-- A system of loops. -/
structure Sys where
  lim : List S48
  start : List S48
  modes : List S53
  loads : List (List S48)

/-- What a system's value reads as. -/
structure SysAt (w : World) (s : Sys) (A0 A1 A2 A3 : Option Addr) (c0 c1 c2 c3 : Nat) : Prop where
  r0 : Kd.C k48 w A0 s.lim.length s.lim
  r1 : Kd.C k48 w A1 s.start.length s.start
  r2 : Kd.C k53 w A2 s.modes.length s.modes
  r3 : Kd.C (Kd.slice 48 k48) w A3 s.loads.length s.loads
  l0 : s.lim.length ≤ c0
  l1 : s.start.length ≤ c1
  l2 : s.modes.length ≤ c2
  l3 : s.loads.length ≤ c3
theorem SysAt.below {w w1 : World} {s : Sys} {A0 A1 A2 A3 : Option Addr} {c0 c1 c2 c3 : Nat} (h : SysAt w s A0 A1 A2 A3 c0 c1 c2 c3) (hb : Below w.heap.size w w1) : SysAt w1 s A0 A1 A2 A3 c0 c1 c2 c3 :=
  ⟨Kd.C_below h.r0 hb, Kd.C_below h.r1 hb, Kd.C_below h.r2 hb, Kd.C_below h.r3 hb, h.l0, h.l1, h.l2, h.l3⟩

abbrev sysV (s : Sys) (A0 A1 A2 A3 : Option Addr) (c0 c1 c2 c3 : Nat) : Value := .agg #[.slice A0 s.lim.length c0, .slice A1 s.start.length c1, .slice A2 s.modes.length c2, .slice A3 s.loads.length c3]

/-- is a box inside of the limits? (as many limits as spans, or more) -/
def insideB : List S48 → List S48 → Bool
  | _, [] => true
  | [], _ :: _ => true
  | l :: ls, b :: bs => insideS b l && insideB ls bs

set_option maxHeartbeats 1000000 in
theorem drop_cons {α : Type} {xs : List α} {k : Nat} {x : α} (h : xs[k]? = some x) : xs.drop k = x :: xs.drop (k + 1) := by
  obtain ⟨hk, rfl⟩ := List.getElem?_eq_some_iff.1 h
  exact List.drop_eq_getElem_cons hk
theorem pw_blk_below {w w1 : World} (hb : Below w.heap.size w w1) {g : Nat} {o : Obj} (h : w.heap[g]? = some o) : w1.heap[g]? = some o := (hb.block g (blk_lt h)).trans h

theorem two_new (w : World) (o1 o2 : Obj) : ((w.alloc o1).alloc o2).heap[w.heap.size]? = some o1 ∧ ((w.alloc o1).alloc o2).heap[w.heap.size + 1]? = some o2 := by
  have h1 := heap_alloc_new w o1
  have h2 := heap_alloc_new (w.alloc o1) o2
  rw [World.size_alloc] at h2
  exact ⟨pw_blk_below (below_alloc (Below.refl _ _) _) h1, h2⟩
theorem three_new (w : World) (o1 o2 o3 : Obj) : (((w.alloc o1).alloc o2).alloc o3).heap[w.heap.size]? = some o1 ∧ (((w.alloc o1).alloc o2).alloc o3).heap[w.heap.size + 1]? = some o2 ∧ (((w.alloc o1).alloc o2).alloc o3).heap[w.heap.size + 1 + 1]? = some o3 := by
  obtain ⟨h1, h2⟩ := two_new w o1 o2
  have h3 := heap_alloc_new ((w.alloc o1).alloc o2) o3
  rw [World.size_alloc, World.size_alloc] at h3
  exact ⟨pw_blk_below (below_alloc (Below.refl _ _) _) h1, pw_blk_below (below_alloc (Below.refl _ _) _) h2, h3⟩

set_option maxRecDepth 100000 in
theorem inside_calls (s : Sys) (A0 A1 A2 A3 : Option Addr) (c0 c1 c2 c3 : Nat) (B : Option Addr) (cb : Nat) (b : List S48) (w : World) (hs : SysAt w s A0 A1 A2 A3 c0 c1 c2 c3) (hr : Kd.C k48 w B b.length b) (hlen : b.length ≤ s.lim.length) :
    Calls Try.prog 34 #[sysV s A0 A1 A2 A3 c0 c1 c2 c3, .slice B b.length cb] w fun e w' => e = .returned (.bool (insideB s.lim b)) ∧ Below w.heap.size w w' := by
  have hl := hr.2.1
  simp only [sysV]
  go_enter Try.func34, Try.ntmps34
  go_wp2
  go_loopg [5, 6, 9] b.length (fun gg _ _ s9 wr => ∃ kk : Nat, kk ≤ b.length ∧ b.length - kk ≤ gg ∧ s9 = .int .i64 kk ∧ Aside0 (Below w.heap.size w wr) ∧ wr.heap[w.heap.size]? = some (.cells #[.slice A0 s.lim.length c0, .slice A1 s.start.length c1, .slice A2 s.modes.length c2, .slice A3 s.loads.length c3] 26 (0, 0)) ∧ Aside0 (insideB (s.lim.drop kk) (b.drop kk) = insideB s.lim b))
  case atStart => exact ⟨0, Nat.zero_le _, by omega, rfl, ⟨below_alloc (Below.refl _ w) _⟩, heap_alloc_new w _, ⟨rfl⟩⟩
  case round =>
    obtain ⟨kk, hkk, hg, rfl, BW, hbx, A⟩ := hrel
    by_cases hlt : kk < b.length
    · have hltz : (kk : Int) < (b.length : Int) := by omega
      have hltz' : (kk : Int) < (s.lim.length : Int) := by omega
      obtain ⟨ad, x, rfl, E0, hx0, hx1⟩ := at48 (Kd.C_below hr BW.out) kk hlt
      obtain ⟨ad', y, rfl, E1, hy0, hy1⟩ := at48 (Kd.C_below hs.r0 BW.out) kk (by omega)
      have g0 := blk_cell hbx 0
      simp at g0
      have hbx := Aside0.mk hbx
      go_wp2_with fail
      obtain ⟨W, hW⟩ : ∃ W, W = wr.alloc (.cells #[.int .i64 x.f0, .int .i64 x.f1] 48) := ⟨_, rfl⟩
      have hbW : Below wr.heap.size wr W := by rw [hW]; exact below_alloc (Below.refl _ _) _
      have f0 : W.cell? ⟨wr.heap.size, 0, none⟩ = some (.int .i64 x.f0) := by rw [hW, blk_cell (heap_alloc_new _ _)]; rfl
      have f1 : W.cell? ⟨wr.heap.size, 1, none⟩ = some (.int .i64 x.f1) := by rw [hW, blk_cell (heap_alloc_new _ _)]; rfl
      have f2 := pw_cell_below hbW hy0
      have f3 := pw_cell_below hbW hy1
      have f4 := pw_cell_below hbW g0
      rw [← hW]
      have HBW := Aside0.mk hbW
      have HW := Aside0.mk hW
      clear hbW hW hx0 hx1 hy0 hy1 g0
      go_still_tail 6, (by kernel_rfl)
      change wpList _ _ _ _ _ W.drew
      have HBT := Aside0.mk (below_drew1 (below_step BW.out HBW.out))
      have hbx2 := Aside0.mk ((pw_blk_below (below_drew1 HBW.out) hbx.out))
      clear BW hbx HBW HW f0 f1 f2 f3 f4
      generalize W.drew = W2 at HBT hbx2 ⊢
      cases hq : insideS x y with
      | true =>
        have HQ := Aside0.mk hq
        go_wp2_with (go_at_call 55; refine (Inside_calls x y _).mono ?_; rw [hq]; rintro e w' ⟨rfl, hb⟩; have HB := Aside0.mk hb; clear hb hq)
        go_roundg (b.length - (kk + 1))
        case measure => omega
        case rel =>
          refine ⟨kk + 1, by omega, by omega, by go_num, ⟨below_step HBT.out HB.out⟩, pw_blk_below HB.out hbx2.out, ⟨?_⟩⟩
          rw [← A.out, drop_cons E0.out, drop_cons E1.out]
          simp [insideB, HQ.out]
      | false =>
        have HQ := Aside0.mk hq
        go_wp2_with (go_at_call 55; refine (Inside_calls x y _).mono ?_; rw [hq]; rintro e w' ⟨rfl, hb⟩; have HB := Aside0.mk hb; clear hb hq)
        go_ret
        exact ⟨ret_b (by rw [← A.out, drop_cons E0.out, drop_cons E1.out]; simp [insideB, HQ.out]), below_step HBT.out HB.out⟩
    · have hltz : ¬ (kk : Int) < (b.length : Int) := by omega
      have : kk = b.length := by omega
      subst this
      go_wp2
      go_ret
      exact ⟨ret_b (by rw [← A.out, List.drop_eq_nil_of_le (Nat.le_refl _)]; cases s.lim.drop b.length <;> rfl), BW.out⟩
end Go.Proofs.Ytppdckjgdamlnaa

namespace Go.Proofs.Ytppdckjgdamlnaa
open Go.RowKit Go.Proofs.YtppdckjgdamlnaaW.PrintWords Go.Proofs.YtppdckjgdamlnaaW.PrintLast Go.Proofs.YtppdckjgdamlnaaW.PrintMore Q Go.Shelf

def heatOk (x : Int) : Bool := !(decide (x < -10000) || decide (10000 < x))

theorem heat1_calls (x : Int) (w : World) : Calls Try.prog 72 #[.int .i64 x] w fun e w' => e = .returned (.bool (!heatOk x)) ∧ Below w.heap.size w w' := by
  by_cases h1 : x < -10000
  all_goals
    go_enter Try.func72, Try.ntmps72
    go_wp2
    go_ret
    exact ⟨ret_b (by simp_all [heatOk] <;> omega), Below.refl _ _⟩

theorem heats_calls (A : Option Addr) (c : Nat) (xs : List Int) (w : World) (hr : Kd.C (Kd.int .i64) w A xs.length xs) :
    Calls Try.prog 71 #[.slice A xs.length c, .func (.func 72) #[] #[]] w fun e w' => e = .returned (.bool (!xs.all heatOk)) ∧ Below w.heap.size w w' :=
  (containsJ_calls 72 #[] (enters_of Try.func72 (by kernel_rfl) rfl) (fun x => !heatOk x) A c xs w hr (fun x _ v W hb hv => by cases hv; exact heat1_calls x W)).mono fun e w' ⟨he, hb⟩ => ⟨by rw [he, ← all_not_any, Bool.not_not], hb⟩

def badAt (n : Int) (u : List Bool) (i : Int) : Bool := decide (i < 0) || decide (n ≤ i) || u.getD i.toNat false
def flowsOk (n : Int) : List S99 → List Bool → Bool
  | [], _ => true
  | f :: fs, u =>
    if decide (f.f2 < 0) || decide (65536 < f.f2) || f.f0 == f.f1 then false
    else if badAt n u f.f0 then false
    else if badAt n (u.set f.f0.toNat true) f.f1 then false
    else flowsOk n fs ((u.set f.f0.toNat true).set f.f1.toNat true)
def modeOk (m : S53) (n : Nat) : Bool := decide (0 ≤ m.f0) && decide (m.f0 ≤ 1073741824) && m.f1.length == n && m.f1.all heatOk && flowsOk n m.f2 [false, false, false]

theorem flowsOk_at (n : Int) (xs : List S99) (k : Nat) (f : S99) (u : List Bool) (h : xs[k]? = some f) : flowsOk n (xs.drop k) u =
    if decide (f.f2 < 0) || decide (65536 < f.f2) || f.f0 == f.f1 then false
    else if badAt n u f.f0 then false
    else if badAt n (u.set f.f0.toNat true) f.f1 then false
    else flowsOk n (xs.drop (k + 1)) ((u.set f.f0.toNat true).set f.f1.toNat true) := by
  rw [drop_cons h, flowsOk]
/-- where the inner loop of checkMode stands: the two ends of a flow. -/
def InnerSt (n : Int) (u : List Bool) (f : S99) (j : Nat) (v : List Bool) : Prop :=
  match j with
  | 0 => v = u
  | 1 => badAt n u f.f0 = false ∧ v = u.set f.f0.toNat true
  | _ => badAt n u f.f0 = false ∧ badAt n (u.set f.f0.toNat true) f.f1 = false ∧ v = (u.set f.f0.toNat true).set f.f1.toNat true
def arr3 (u : List Bool) : Array Value := (u.map Value.bool).toArray
theorem arr3_at (u : List Bool) (i : Int) (h0 : 0 ≤ i) (h1 : i < u.length) : (arr3 u)[i.toNat]? = some (.bool (u.getD i.toNat false)) := by
  have : i.toNat < u.length := by omega
  simp [arr3, List.getD_eq_getElem?_getD, this]
theorem arr3_set (u : List Bool) (i : Nat) : (arr3 u).setIfInBounds i (.bool true) = arr3 (u.set i true) := by
  simp [arr3, List.map_set]

theorem checkMode_bad (m : S53) (A1 A2 : Option Addr) (c1 c2 : Nat) (n : Nat) (w : World) (hb : (m.f0 < 0 ∨ 1073741824 < m.f0) ∨ m.f1.length ≠ n) :
    Calls Try.prog 54 #[.agg #[.int .i64 m.f0, .slice A1 m.f1.length c1, .slice A2 m.f2.length c2], .int .i64 n] w fun e w' => e = .returned (.bool (modeOk m n)) ∧ Below w.heap.size w w' := by
  have hm : modeOk m n = false := by
    unfold modeOk
    rcases hb with (h | h) | h
    · rw [decide_eq_false (by omega : ¬ 0 ≤ m.f0)]; rfl
    · rw [decide_eq_false (by omega : ¬ m.f0 ≤ 1073741824)]; simp
    · rw [beq_eq_false_iff_ne.2 h]; simp
  rw [hm]
  by_cases h0 : m.f0 < 0
  · clear hb hm
    go_enter Try.func54, Try.ntmps54
    go_wp2
    go_ret
    exact ⟨rfl, below_alloc (Below.refl _ _) _⟩
  · by_cases h1 : 1073741824 < m.f0
    · clear hb hm
      go_enter Try.func54, Try.ntmps54
      go_wp2
      go_ret
      exact ⟨rfl, below_alloc (Below.refl _ _) _⟩
    · have h2 : ((m.f1.length : Int) != (n : Int)) = true := by
        rw [bne_iff_ne]; omega
      clear hb hm
      go_enter Try.func54, Try.ntmps54
      go_wp2
      go_ret
      exact ⟨rfl, below_alloc (Below.refl _ _) _⟩

theorem idx113_0 (x y : Int) (w : World) : (Instr.index 113 (.agg #[.int .i64 x, .int .i64 y]) (.int .i64 0)).run Try.prog w = .ok (.int .i64 x) w := by kernel_rfl
theorem idx113_1 (x y : Int) (w : World) : (Instr.index 113 (.agg #[.int .i64 x, .int .i64 y]) (.int .i64 1)).run Try.prog w = .ok (.int .i64 y) w := by kernel_rfl

set_option maxHeartbeats 2000000 in
set_option maxRecDepth 100000 in
theorem checkMode_good (m : S53) (A1 A2 : Option Addr) (c1 c2 : Nat) (n : Nat) (hn : n ≤ 3) (w : World) (h1 : Kd.C (Kd.int .i64) w A1 m.f1.length m.f1) (h2 : Kd.C k99 w A2 m.f2.length m.f2)
    (g0 : 0 ≤ m.f0) (g1 : m.f0 ≤ 1073741824) (g2 : m.f1.length = n) :
    Calls Try.prog 54 #[.agg #[.int .i64 m.f0, .slice A1 m.f1.length c1, .slice A2 m.f2.length c2], .int .i64 n] w fun e w' => e = .returned (.bool (m.f1.all heatOk && flowsOk n m.f2 [false, false, false])) ∧ Below w.heap.size w w' := by
  have hl := h2.2.1
  have hb0 : ((m.f1.length : Int) != (n : Int)) = false := by rw [bne_eq_false_iff_eq]; omega
  have h1' := Kd.C_alloc h1 (.cells #[.int .i64 m.f0, .slice A1 m.f1.length c1, .slice A2 m.f2.length c2] 53)
  have HC := Aside0.mk (heats_calls A1 c1 m.f1 _ h1')
  clear h1' h1 g2
  cases hh : m.f1.all heatOk with
  | false =>
    rw [hh] at HC
    clear hh
    go_enter Try.func54, Try.ntmps54
    go_wp2_with (go_at_call 71; refine HC.out.mono ?_; rintro e w' ⟨rfl, hb⟩; have HB := Aside0.mk hb; clear hb)
    go_ret
    exact ⟨rfl, below_step (below_alloc (Below.refl _ _) _) HB.out⟩
  | true =>
    rw [hh] at HC
    clear hh
    go_enter Try.func54, Try.ntmps54
    go_wp2_with (go_at_call 71; refine HC.out.mono ?_; rintro e w1 ⟨rfl, hb⟩; have HB := Aside0.mk hb; have hbx := pw_blk_below hb (heap_alloc_new w _); have hz := blk_lt hbx; have d0 := blk_cell hbx 2; simp at d0; clear hb hbx)
    obtain ⟨W, hW⟩ : ∃ W, W = w1.alloc (.cells #[.bool false, .bool false, .bool false] 112) := ⟨_, rfl⟩
    have hu := Aside0.mk (show W.heap[w1.heap.size]? = some (.cells (arr3 [false, false, false]) 112 (0, 0)) by rw [hW]; exact heap_alloc_new w1 _)
    have HBW := Aside0.mk (show Below w.heap.size w W by rw [hW]; exact below_alloc (below_step (below_alloc (Below.refl _ _) _) HB.out) _)
    have hge := Aside0.mk (show w.heap.size ≤ w1.heap.size by omega)
    rw [← hW]
    clear hW HB HC d0
    generalize w1.heap.size = g at hu hge hz ⊢
    go_loopg [31] m.f2.length (fun gg s31 wr => ∃ (kk : Nat) (u : List Bool), kk ≤ m.f2.length ∧ m.f2.length - kk ≤ gg ∧ s31 = .int .i64 kk ∧ u.length = 3 ∧ Aside0 (Below w.heap.size w wr) ∧ Aside0 (wr.heap[g]? = some (.cells (arr3 u) 112 (0, 0))) ∧ Aside0 (flowsOk n (m.f2.drop kk) u = flowsOk n m.f2 [false, false, false]))
    case atStart => exact ⟨0, [false, false, false], Nat.zero_le _, by omega, rfl, rfl, HBW, hu, ⟨rfl⟩⟩
    case round =>
      clear hu HBW
      obtain ⟨kk, u, hkk, hg, rfl, hul, BW, hu, A⟩ := hrel
      by_cases hlt : kk < m.f2.length
      · have hltz : (kk : Int) < (m.f2.length : Int) := by omega
        obtain ⟨ad, f, rfl, E0, hx0, hx1, hx2⟩ := at99 (Kd.C_below h2 BW.out) kk hlt
        have hfl := flowsOk_at n m.f2 kk f u E0.out
        rw [A.out] at hfl
        have HF := Aside0.mk hfl
        clear hfl h2
        by_cases p0 : f.f2 < 0
        · go_wp2
          go_ret
          exact ⟨ret_b (by rw [HF.out, decide_eq_true p0]; rfl), below_alloc BW.out _⟩
        · by_cases p1 : 65536 < f.f2
          · go_wp2
            go_ret
            exact ⟨ret_b (by rw [HF.out, decide_eq_true p1]; simp), below_alloc BW.out _⟩
          · cases p2 : f.f0 == f.f1 with
            | true =>
              go_wp2
              go_ret
              exact ⟨ret_b (by rw [HF.out, p2]; simp), below_alloc BW.out _⟩
            | false =>
              rw [p2, decide_eq_false p0, decide_eq_false p1] at HF
              go_wp2_with fail
              obtain ⟨W2, hW2⟩ : ∃ W2, W2 = wr.alloc (.cells #[.int .i64 f.f0, .int .i64 f.f1, .int .i64 f.f2] 99) := ⟨_, rfl⟩
              have hu2 := Aside0.mk (show W2.heap[g]? = some (.cells (arr3 u) 112 (0, 0)) by rw [hW2]; exact pw_blk_below (below_alloc (Below.refl _ _) _) hu.out)
              have BW2 := Aside0.mk (show Below w.heap.size w W2 by rw [hW2]; exact below_alloc BW.out _)
              rw [← hW2]
              clear hW2 hx0 hx1 hx2 hu BW
              go_loopg [55] 2 (fun gg s55 wi => ∃ (j : Nat) (v : List Bool), j ≤ 2 ∧ 2 - j ≤ gg ∧ s55 = .int .i64 j ∧ v.length = 3 ∧ Aside0 (Below w.heap.size w wi) ∧ Aside0 (wi.heap[g]? = some (.cells (arr3 v) 112 (0, 0))) ∧ Aside0 (InnerSt n u f j v))
              case atStart => exact ⟨0, u, by omega, by omega, rfl, hul, BW2, hu2, ⟨rfl⟩⟩
              case round =>
                clear hu2 BW2
                obtain ⟨j, v, hj, hgj, rfl, hvl, BW, hu, hst⟩ := hrel
                have i0 := fun W_ => idx113_0 f.f0 f.f1 W_
                have i1 := fun W_ => idx113_1 f.f0 f.f1 W_
                obtain rfl | rfl | rfl : j = 0 ∨ j = 1 ∨ j = 2 := by omega
                · have E := hst.out
                  simp only [InnerSt] at E
                  subst v
                  have BAD : badAt n u f.f0 = true → (if badAt n u f.f0 = true then false else if badAt n (u.set f.f0.toNat true) f.f1 = true then false else flowsOk n (List.drop (kk + 1) m.f2) ((u.set f.f0.toNat true).set f.f1.toNat true)) = false := fun hb => by rw [if_pos hb]
                  have HBAD := Aside0.mk BAD
                  clear BAD
                  by_cases q0 : f.f0 < 0
                  · go_wp2
                    go_ret
                    exact ⟨ret_b (by have := HF.out.trans (HBAD.out (by simp [badAt, q0])); simp [this]), BW.out⟩
                  · by_cases q1 : (n : Int) ≤ f.f0
                    · go_wp2
                      go_ret
                      exact ⟨ret_b (by have := HF.out.trans (HBAD.out (by simp [badAt, q1])); simp [this]), BW.out⟩
                    · have q2 : (f.f0).toNat < 3 := by omega
                      have hc := blk_cell hu.out (f.f0).toNat
                      rw [arr3_at _ f.f0 (by omega) (by rw [hvl]; omega)] at hc
                      have hfz := blk_frozen hu.out (f.f0).toNat
                      have HUL := Aside0.mk hvl
                      clear hvl
                      cases q3 : (u).getD (f.f0).toNat false with
                      | true =>
                        rw [q3] at hc
                        have Q3 := Aside0.mk q3
                        clear q3
                        go_wp2
                        go_ret
                        exact ⟨ret_b (by have := HF.out.trans (HBAD.out (by rw [badAt, Q3.out]; simp)); simp [this]), BW.out⟩
                      | false =>
                        rw [q3] at hc
                        have Q3 := Aside0.mk (show badAt n (u) f.f0 = false by rw [badAt, q3, decide_eq_false q0, decide_eq_false q1]; rfl)
                        clear q3
                        go_wp2
                        go_roundg 1
                        case measure => omega
                        case rel => exact ⟨1, (u).set (f.f0).toNat true, by omega, by omega, rfl, by simp [HUL.out], ⟨BW.out.setCell (p := ⟨g, _, none⟩) (by simp; omega) _⟩, ⟨by rw [← arr3_set]; exact blk_set hu.out _ _⟩, ⟨⟨Q3.out, rfl⟩⟩⟩

                · have E := hst.out
                  simp only [InnerSt] at E
                  obtain ⟨E0', rfl⟩ := E
                  have E1 := Aside0.mk E0'
                  clear E0'
                  have BAD : badAt n (u.set f.f0.toNat true) f.f1 = true → (if badAt n u f.f0 = true then false else if badAt n (u.set f.f0.toNat true) f.f1 = true then false else flowsOk n (List.drop (kk + 1) m.f2) ((u.set f.f0.toNat true).set f.f1.toNat true)) = false := fun hb => by rw [if_neg (by rw [E1.out]; simp), if_pos hb]
                  have HBAD := Aside0.mk BAD
                  clear BAD
                  by_cases q0 : f.f1 < 0
                  · go_wp2
                    go_ret
                    exact ⟨ret_b (by have := HF.out.trans (HBAD.out (by simp [badAt, q0])); simp [this]), BW.out⟩
                  · by_cases q1 : (n : Int) ≤ f.f1
                    · go_wp2
                      go_ret
                      exact ⟨ret_b (by have := HF.out.trans (HBAD.out (by simp [badAt, q1])); simp [this]), BW.out⟩
                    · have q2 : (f.f1).toNat < 3 := by omega
                      have hc := blk_cell hu.out (f.f1).toNat
                      rw [arr3_at _ f.f1 (by omega) (by rw [hvl]; omega)] at hc
                      have hfz := blk_frozen hu.out (f.f1).toNat
                      have HUL := Aside0.mk hvl
                      clear hvl
                      cases q3 : ((u.set f.f0.toNat true)).getD (f.f1).toNat false with
                      | true =>
                        rw [q3] at hc
                        have Q3 := Aside0.mk q3
                        clear q3
                        go_wp2
                        go_ret
                        exact ⟨ret_b (by have := HF.out.trans (HBAD.out (by rw [badAt, Q3.out]; simp)); simp [this]), BW.out⟩
                      | false =>
                        rw [q3] at hc
                        have Q3 := Aside0.mk (show badAt n ((u.set f.f0.toNat true)) f.f1 = false by rw [badAt, q3, decide_eq_false q0, decide_eq_false q1]; rfl)
                        clear q3
                        go_wp2
                        go_roundg 0
                        case measure => omega
                        case rel => exact ⟨2, ((u.set f.f0.toNat true)).set (f.f1).toNat true, by omega, by omega, rfl, by simp [HUL.out], ⟨BW.out.setCell (p := ⟨g, _, none⟩) (by simp; omega) _⟩, ⟨by rw [← arr3_set]; exact blk_set hu.out _ _⟩, ⟨⟨E1.out, Q3.out, rfl⟩⟩⟩

                · have E := hst.out
                  simp only [InnerSt] at E
                  obtain ⟨e1, e2, rfl⟩ := E
                  have E1 := Aside0.mk e1
                  have E2 := Aside0.mk e2
                  clear e1 e2
                  go_wp2
                  go_roundg (m.f2.length - (kk + 1))
                  case measure => omega
                  case rel =>
                    refine ⟨kk + 1, _, by omega, by omega, by go_num, hvl, BW, hu, ⟨?_⟩⟩
                    have := HF.out
                    rw [E1.out, E2.out] at this
                    simpa using this.symm
      · have hltz : ¬ (kk : Int) < (m.f2.length : Int) := by omega
        have : kk = m.f2.length := by omega
        subst this
        go_wp2
        go_ret
        exact ⟨ret_b (by rw [← A.out, List.drop_eq_nil_of_le (Nat.le_refl _)]; rfl), BW.out⟩

theorem checkMode_calls (m : S53) (A1 A2 : Option Addr) (c1 c2 : Nat) (n : Nat) (hn : n ≤ 3) (w : World) (h1 : Kd.C (Kd.int .i64) w A1 m.f1.length m.f1) (h2 : Kd.C k99 w A2 m.f2.length m.f2) :
    Calls Try.prog 54 #[.agg #[.int .i64 m.f0, .slice A1 m.f1.length c1, .slice A2 m.f2.length c2], .int .i64 n] w fun e w' => e = .returned (.bool (modeOk m n)) ∧ Below w.heap.size w w' := by
  by_cases hb : (m.f0 < 0 ∨ 1073741824 < m.f0) ∨ m.f1.length ≠ n
  · exact checkMode_bad m A1 A2 c1 c2 n w hb
  · have e : modeOk m n = (m.f1.all heatOk && flowsOk n m.f2 [false, false, false]) := by
      unfold modeOk
      rw [decide_eq_true (by omega : 0 ≤ m.f0), decide_eq_true (by omega : m.f0 ≤ 1073741824), beq_iff_eq.2 (by omega : m.f1.length = n)]
      simp
    rw [e]
    exact checkMode_good m A1 A2 c1 c2 n hn w h1 h2 (by omega) (by omega) (by omega)
end Go.Proofs.Ytppdckjgdamlnaa

namespace Go.Proofs.Ytppdckjgdamlnaa
open Go.RowKit Go.Proofs.YtppdckjgdamlnaaW.PrintWords Go.Proofs.YtppdckjgdamlnaaW.PrintLast Go.Proofs.YtppdckjgdamlnaaW.PrintMore Q Go.Shelf

def boxOk (n : Nat) (xs : List S48) : Bool := xs.length == n && withinB xs 10000

theorem box_calls (n : Nat) (Bn : Nat) (A : Option Addr) (c : Nat) (xs : List S48) (w : World) (hn : w.cell? ⟨Bn, 0, none⟩ = some (.int .i64 n)) (hr : Kd.C k48 w A xs.length xs) :
    Calls Try.prog 49 #[.slice A xs.length c, .pointer (some ⟨Bn, 0, none⟩)] w fun e w' => e = .returned (.bool (boxOk n xs)) ∧ Below w.heap.size w w' := by
  by_cases h : xs.length = n
  · have hb : ((xs.length : Int) == (n : Int)) = true := by rw [beq_iff_eq]; omega
    have HH := Aside0.mk h
    clear h
    go_enter Try.func49, Try.ntmps49
    go_wp2_with (go_at_call 47; refine (within_calls A c xs 10000 (by omega) (by omega) _ hr).mono ?_; rintro e w' ⟨rfl, hb'⟩; have HB := Aside0.mk hb'; clear hb')
    go_ret
    exact ⟨ret_b (by simp [boxOk, HH.out]), HB.out⟩
  · have hb : ((xs.length : Int) == (n : Int)) = false := by rw [beq_eq_false_iff_ne]; omega
    have HH := Aside0.mk h
    clear h
    go_enter Try.func49, Try.ntmps49
    go_wp2
    go_ret
    exact ⟨ret_b (by simp [boxOk, HH.out]), Below.refl _ _⟩

theorem notbox_calls (n : Nat) (Bn Bb : Nat) (A : Option Addr) (c : Nat) (xs : List S48) (w : World) (hb : w.cell? ⟨Bb, 0, none⟩ = some (.func (.func 49) #[] #[.pointer (some ⟨Bn, 0, none⟩)])) (hn : w.cell? ⟨Bn, 0, none⟩ = some (.int .i64 n)) (hr : Kd.C k48 w A xs.length xs) :
    Calls Try.prog 51 #[.slice A xs.length c, .pointer (some ⟨Bb, 0, none⟩)] w fun e w' => e = .returned (.bool (!boxOk n xs)) ∧ Below w.heap.size w w' := by
  go_enter Try.func51, Try.ntmps51
  go_wp2_with (go_at_call 49; refine (box_calls n Bn A c xs _ hn hr).mono ?_; rintro e w' ⟨rfl, hb'⟩; have HB := Aside0.mk hb'; clear hb')
  go_ret
  exact ⟨rfl, HB.out⟩

theorem notmode_calls (m : S53) (A1 A2 : Option Addr) (c1 c2 : Nat) (n Bn : Nat) (hn3 : n ≤ 3) (w : World) (hB : Bn < w.heap.size) (hn : w.cell? ⟨Bn, 0, none⟩ = some (.int .i64 n)) (h1 : Kd.C (Kd.int .i64) w A1 m.f1.length m.f1) (h2 : Kd.C k99 w A2 m.f2.length m.f2) :
    Calls Try.prog 53 #[.agg #[.int .i64 m.f0, .slice A1 m.f1.length c1, .slice A2 m.f2.length c2], .pointer (some ⟨Bn, 0, none⟩)] w fun e w' => e = .returned (.bool (!modeOk m n)) ∧ Below w.heap.size w w' := by
  have HC := fun o => Aside0.mk (checkMode_calls m A1 A2 c1 c2 n hn3 (w.alloc o) (Kd.C_alloc h1 o) (Kd.C_alloc h2 o))
  clear h1 h2
  go_enter Try.func53, Try.ntmps53
  go_wp2_with (go_at_call 54; refine (HC _).out.mono ?_; rintro e w' ⟨rfl, hb'⟩; have HB := Aside0.mk hb'; clear hb')
  go_ret
  exact ⟨rfl, below_step (below_alloc (Below.refl _ _) _) HB.out⟩

def lensOk (s : Sys) : Bool := decide (1 ≤ s.lim.length) && decide (s.lim.length ≤ 3) && decide (1 ≤ s.modes.length) && decide (s.modes.length ≤ 8) && decide (s.loads.length ≤ 48)
def checkB (s : Sys) : Bool := lensOk s && boxOk s.lim.length s.lim && boxOk s.lim.length s.start && insideB s.lim s.start && s.loads.all (boxOk s.lim.length) && s.modes.all (modeOk · s.lim.length)
/-- ErrArg is 2. -/
def checkE (s : Sys) : Int := if checkB s then 0 else 2

theorem all_of_any {α : Type} (p : α → Bool) (xs : List α) : xs.all p = !(xs.any fun x => !p x) := (all_not_any p xs).symm
theorem ret_i {a b : Int} (h : a = b) : Ending.returned (.int .i64 a) = .returned (.int .i64 b) := by rw [h]

theorem Check_lens (s : Sys) (A0 A1 A2 A3 : Option Addr) (c0 c1 c2 c3 : Nat) (w : World) (h : lensOk s = false) :
    Calls Try.prog 31 #[sysV s A0 A1 A2 A3 c0 c1 c2 c3] w fun e w' => e = .returned (.int .i64 2) ∧ Below w.heap.size w w' := by
  have h5 : s.lim.length < 1 ∨ 3 < s.lim.length ∨ s.modes.length < 1 ∨ 8 < s.modes.length ∨ 48 < s.loads.length := by
    simp only [lensOk, Bool.and_eq_false_iff, decide_eq_false_iff_not] at h
    omega
  clear h
  simp only [sysV]
  go_enter Try.func31, Try.ntmps31
  go_wp2_with fail
  all_goals
    go_ret
    exact ⟨rfl, below_alloc (below_alloc (below_alloc (Below.refl _ _) _) _) _⟩

set_option maxHeartbeats 2000000 in
theorem Check_rest (s : Sys) (A0 A1 A2 A3 : Option Addr) (c0 c1 c2 c3 : Nat) (w : World) (hs : SysAt w s A0 A1 A2 A3 c0 c1 c2 c3) (h : lensOk s = true) :
    Calls Try.prog 31 #[sysV s A0 A1 A2 A3 c0 c1 c2 c3] w fun e w' => e = .returned (.int .i64 (checkE s)) ∧ Below w.heap.size w w' := by
  simp only [lensOk, Bool.and_eq_true, decide_eq_true_eq] at h
  obtain ⟨⟨⟨⟨p0, p1⟩, p2⟩, p3⟩, p4⟩ := h
  have q0 : (1 : Int) ≤ (s.lim.length : Int) := by omega
  have q1 : (s.lim.length : Int) ≤ 3 := by omega
  have q2 : (1 : Int) ≤ (s.modes.length : Int) := by omega
  have q3 : (s.modes.length : Int) ≤ 8 := by omega
  have q4 : (s.loads.length : Int) ≤ 48 := by omega
  have hck : checkE s = if boxOk s.lim.length s.lim && boxOk s.lim.length s.start && insideB s.lim s.start && s.loads.all (boxOk s.lim.length) && s.modes.all (modeOk · s.lim.length) then 0 else 2 := by
    simp [checkE, checkB, lensOk, p0, p1, p2, p3, p4]
  have HS := Aside0.mk hs
  have HCK := Aside0.mk hck
  clear hs hck p0 p1 p2 p3 p4
  simp only [sysV]
  go_enter Try.func31, Try.ntmps31
  go_wp2_with fail
  obtain ⟨W, hW⟩ : ∃ W, W = ((w.alloc (.cells #[.slice A0 s.lim.length c0, .slice A1 s.start.length c1, .slice A2 s.modes.length c2, .slice A3 s.loads.length c3] 26)).alloc (.cells #[.int .i64 ↑s.lim.length] 3)).alloc (.cells #[.func (.func 49) #[] #[.pointer (some ⟨w.heap.size + 1, 0, none⟩)]] 88) := ⟨_, rfl⟩
  have HB := Aside0.mk (show Below w.heap.size w W by rw [hW]; exact below_alloc (below_alloc (below_alloc (Below.refl _ _) _) _) _)
  have k0 := Aside0.mk (show W.heap[w.heap.size]? = some (.cells #[.slice A0 s.lim.length c0, .slice A1 s.start.length c1, .slice A2 s.modes.length c2, .slice A3 s.loads.length c3] 26 (0, 0)) by rw [hW]; exact (three_new _ _ _ _).1)
  have k1 := Aside0.mk (show W.heap[w.heap.size + 1]? = some (.cells #[.int .i64 ↑s.lim.length] 3 (0, 0)) by rw [hW]; exact (three_new _ _ _ _).2.1)
  have k2 := Aside0.mk (show W.heap[w.heap.size + 1 + 1]? = some (.cells #[.func (.func 49) #[] #[.pointer (some ⟨w.heap.size + 1, 0, none⟩)]] 88 (0, 0)) by rw [hW]; exact (three_new _ _ _ _).2.2)
  rw [← hW]
  clear hW
  refine (box_calls s.lim.length _ A0 c0 s.lim W (by rw [blk_cell k1.out]; rfl) (HS.out.below HB.out).r0).mono ?_
  rintro e w1 ⟨rfl, hb⟩
  replace HB := Aside0.mk (below_step HB.out hb)
  replace k0 := Aside0.mk (pw_blk_below hb k0.out)
  replace k1 := Aside0.mk (pw_blk_below hb k1.out)
  replace k2 := Aside0.mk (pw_blk_below hb k2.out)
  clear hb
  have d0 := blk_cell k0.out 0
  have d1 := blk_cell k0.out 1
  have d2 := blk_cell k0.out 2
  have d3 := blk_cell k0.out 3
  have d4 := blk_cell k2.out 0
  simp at d0 d1 d2 d3 d4
  clear W
  cases hx : boxOk s.lim.length s.lim with
  | false =>
    have HX := Aside0.mk hx
    clear hx
    go_wp2_with fail
    go_ret
    exact ⟨ret_i (by rw [HCK.out]; simp only [HX.out]; simp), HB.out⟩
  | true =>
  have X1 := Aside0.mk hx
  clear hx
  go_wp2_with fail
  clear d0 d1 d2 d3 d4
  refine (box_calls s.lim.length _ A1 c1 s.start _ (by rw [blk_cell k1.out]; rfl) (HS.out.below HB.out).r1).mono ?_
  rintro e w2 ⟨rfl, hb⟩
  replace HB := Aside0.mk (below_step HB.out hb)
  replace k0 := Aside0.mk (pw_blk_below hb k0.out)
  replace k1 := Aside0.mk (pw_blk_below hb k1.out)
  replace k2 := Aside0.mk (pw_blk_below hb k2.out)
  clear hb
  have d0 := blk_cell k0.out 0
  have d1 := blk_cell k0.out 1
  have d2 := blk_cell k0.out 2
  have d3 := blk_cell k0.out 3
  have d4 := blk_cell k2.out 0
  simp at d0 d1 d2 d3 d4
  clear w1
  cases hx : boxOk s.lim.length s.start with
  | false =>
    have HX := Aside0.mk hx
    clear hx
    go_wp2_with fail
    go_ret
    exact ⟨ret_i (by rw [HCK.out]; simp only [X1.out, all_of_any, HX.out]; simp), HB.out⟩
  | true =>
  have X2 := Aside0.mk hx
  clear hx
  go_wp2_with fail
  clear d0 d1 d2 d3 d4
  refine (inside_calls s A0 A1 A2 A3 c0 c1 c2 c3 A1 c1 s.start _ (HS.out.below HB.out) (HS.out.below HB.out).r1 (by have := X2.out; simp only [boxOk, Bool.and_eq_true, beq_iff_eq] at this; omega)).mono ?_
  rintro e w3 ⟨rfl, hb⟩
  replace HB := Aside0.mk (below_step HB.out hb)
  replace k0 := Aside0.mk (pw_blk_below hb k0.out)
  replace k1 := Aside0.mk (pw_blk_below hb k1.out)
  replace k2 := Aside0.mk (pw_blk_below hb k2.out)
  clear hb
  have d0 := blk_cell k0.out 0
  have d1 := blk_cell k0.out 1
  have d2 := blk_cell k0.out 2
  have d3 := blk_cell k0.out 3
  have d4 := blk_cell k2.out 0
  simp at d0 d1 d2 d3 d4
  clear w2
  cases hx : insideB s.lim s.start with
  | false =>
    have HX := Aside0.mk hx
    clear hx
    go_wp2_with fail
    go_ret
    exact ⟨ret_i (by rw [HCK.out]; simp only [X1.out, X2.out, all_of_any, HX.out]; simp), HB.out⟩
  | true =>
  have X3 := Aside0.mk hx
  clear hx
  go_wp2_with fail
  clear d0 d1 d2 d3 d4
  refine (containsLi_calls 51 _ (enters_of Try.func51 (by kernel_rfl) rfl) (fun x => !boxOk s.lim.length x) A3 c3 s.loads _ (HS.out.below HB.out).r3 (fun x _ v W' hb' hv => by obtain ⟨A_, c_, rfl, _, hr_⟩ := hv; exact notbox_calls s.lim.length _ _ A_ c_ x W' (by rw [blk_cell (pw_blk_below hb' k2.out)]; rfl) (by rw [blk_cell (pw_blk_below hb' k1.out)]; rfl) hr_)).mono ?_
  rintro e w4 ⟨rfl, hb⟩
  replace HB := Aside0.mk (below_step HB.out hb)
  replace k0 := Aside0.mk (pw_blk_below hb k0.out)
  replace k1 := Aside0.mk (pw_blk_below hb k1.out)
  replace k2 := Aside0.mk (pw_blk_below hb k2.out)
  clear hb
  have d0 := blk_cell k0.out 0
  have d1 := blk_cell k0.out 1
  have d2 := blk_cell k0.out 2
  have d3 := blk_cell k0.out 3
  have d4 := blk_cell k2.out 0
  simp at d0 d1 d2 d3 d4
  clear w3
  cases hx : s.loads.any fun x => !boxOk s.lim.length x with
  | true =>
    have HX := Aside0.mk hx
    clear hx
    go_wp2_with fail
    go_ret
    exact ⟨ret_i (by rw [HCK.out]; simp only [X1.out, X2.out, X3.out, all_of_any, HX.out]; simp), HB.out⟩
  | false =>
  have X4 := Aside0.mk hx
  clear hx
  go_wp2_with fail
  clear d0 d1 d2 d3 d4
  refine (containsMo_calls 53 _ (enters_of Try.func53 (by kernel_rfl) rfl) (fun x => !modeOk x s.lim.length) A2 c2 s.modes _ (HS.out.below HB.out).r2 (fun x _ v W' hb' hv => by obtain ⟨A_, c_, B_, e_, rfl, _, hr_, _, hr2_⟩ := hv; exact notmode_calls x A_ B_ c_ e_ s.lim.length _ (by omega) W' (blk_lt (pw_blk_below hb' k1.out)) (by rw [blk_cell (pw_blk_below hb' k1.out)]; rfl) hr_ hr2_)).mono ?_
  rintro e w5 ⟨rfl, hb⟩
  replace HB := Aside0.mk (below_step HB.out hb)
  replace k0 := Aside0.mk (pw_blk_below hb k0.out)
  replace k1 := Aside0.mk (pw_blk_below hb k1.out)
  replace k2 := Aside0.mk (pw_blk_below hb k2.out)
  clear hb
  have d0 := blk_cell k0.out 0
  have d1 := blk_cell k0.out 1
  have d2 := blk_cell k0.out 2
  have d3 := blk_cell k0.out 3
  have d4 := blk_cell k2.out 0
  simp at d0 d1 d2 d3 d4
  clear w4
  cases hx : s.modes.any fun x => !modeOk x s.lim.length with
  | true =>
    have HX := Aside0.mk hx
    clear hx
    go_wp2_with fail
    go_ret
    exact ⟨ret_i (by rw [HCK.out]; simp only [X1.out, X2.out, X3.out, all_of_any, X4.out, all_of_any, HX.out]; simp), HB.out⟩
  | false =>
  have X5 := Aside0.mk hx
  clear hx
  go_wp2_with fail
  go_ret
  exact ⟨ret_i (by rw [HCK.out]; simp only [X1.out, X2.out, X3.out, all_of_any, X4.out, X5.out]; simp), HB.out⟩

theorem Check_calls (s : Sys) (A0 A1 A2 A3 : Option Addr) (c0 c1 c2 c3 : Nat) (w : World) (hs : SysAt w s A0 A1 A2 A3 c0 c1 c2 c3) :
    Calls Try.prog 31 #[sysV s A0 A1 A2 A3 c0 c1 c2 c3] w fun e w' => e = .returned (.int .i64 (checkE s)) ∧ Below w.heap.size w w' := by
  cases h : lensOk s with
  | true => exact Check_rest s A0 A1 A2 A3 c0 c1 c2 c3 w hs h
  | false =>
    have e : checkE s = 2 := by simp [checkE, checkB, h]
    rw [e]
    exact Check_lens s A0 A1 A2 A3 c0 c1 c2 c3 w h
end Go.Proofs.Ytppdckjgdamlnaa

namespace Go.Proofs.Ytppdckjgdamlnaa
open Go.RowKit Go.Proofs.YtppdckjgdamlnaaW.PrintWords Go.Proofs.YtppdckjgdamlnaaW.PrintLast Go.Proofs.YtppdckjgdamlnaaW.PrintMore Q Go.Shelf

def flowX (t : List Int) (f : S99) : Int := wrap64 (wrap64 (t.getD f.f0.toNat 0 - t.getD f.f1.toNat 0) * f.f2) / 65536
def applyFlows (t : List Int) : List S99 → List Int → List Int
  | [], out => out
  | f :: fs, out =>
    let o1 := out.set f.f0.toNat (wrap64 (out.getD f.f0.toNat 0 - flowX t f))
    applyFlows t fs (o1.set f.f1.toNat (wrap64 (o1.getD f.f1.toNat 0 + flowX t f)))
def add3 (t s w : List Int) : List Int := List.zipWith (fun a b => wrap64 (a + b)) (List.zipWith (fun a b => wrap64 (a + b)) t s) w
def nextL (m : S53) (t w : List Int) : List Int := applyFlows t m.f2 (add3 t m.f1 w)

def ints (xs : List Int) : Array Value := (xs.map (Value.int .i64)).toArray
theorem ints_at (xs : List Int) (i : Nat) (h : i < xs.length) : (ints xs)[i]? = some (.int .i64 (xs.getD i 0)) := by
  simp [ints, List.getD_eq_getElem?_getD, h]
theorem ints_set (xs : List Int) (i : Nat) (x : Int) : (ints xs).setIfInBounds i (.int .i64 x) = ints (xs.set i x) := by
  simp [ints, List.map_set]
theorem ints_made (n : Nat) : madeCells #[.int .i64 0] n = ints (List.replicate n 0) := by
  have h := toList_madeCells_one (.int .i64 0) n
  rw [← Array.toList_inj, h]
  simp [ints]

/-- every flow of a mode is between two of n loops -/
def flowsIn (n : Nat) (fs : List S99) : Prop := ∀ f ∈ fs, 0 ≤ f.f0 ∧ f.f0 < n ∧ 0 ≤ f.f1 ∧ f.f1 < n

/-- a row of whole numbers in a block of its own -/
def OwnInts (w : World) (g : Nat) (xs : List Int) : Prop := w.heap[g]? = some (.cells (ints xs) 2 (0, 0))

def fill (ys : List Int) (n k : Nat) : List Int := ys.take k ++ List.replicate (n - k) 0
theorem fill_set (ys : List Int) (n k : Nat) (y : Int) (hn : ys.length = n) (hy : ys[k]? = some y) : (fill ys n k).set k y = fill ys n (k + 1) := by
  obtain ⟨hk, hy'⟩ := List.getElem?_eq_some_iff.1 hy
  unfold fill
  have hl : (ys.take k).length = k := by simp; omega
  rw [List.set_append, if_neg (by omega), hl, Nat.sub_self, show n - k = (n - (k + 1)) + 1 by omega, List.replicate_succ, List.set_cons_zero, List.take_add_one, hy]
  simp
theorem fill_len (ys : List Int) (n k : Nat) (hn : ys.length = n) (hk : k ≤ n) : (fill ys n k).length = n := by simp [fill]; omega
theorem fill_all (ys : List Int) (n : Nat) (hn : ys.length = n) : fill ys n n = ys := by simp [fill, ← hn]
theorem fill_none (ys : List Int) (n : Nat) : fill ys n 0 = List.replicate n 0 := by simp [fill]
theorem add3_at (t s w : List Int) (k : Nat) (a b c : Int) (h1 : t[k]? = some a) (h2 : s[k]? = some b) (h3 : w[k]? = some c) : (add3 t s w)[k]? = some (wrap64 (wrap64 (a + b) + c)) := by
  simp [add3, List.getElem?_zipWith, h1, h2, h3]
theorem add3_len (t s w : List Int) (n : Nat) (h1 : t.length = n) (h2 : s.length = n) (h3 : w.length = n) : (add3 t s w).length = n := by
  simp [add3, h1, h2, h3]

theorem applyFlows_at (t : List Int) (fs : List S99) (k : Nat) (f : S99) (out : List Int) (h : fs[k]? = some f) :
    applyFlows t (fs.drop k) out = applyFlows t (fs.drop (k + 1)) ((out.set f.f0.toNat (wrap64 (out.getD f.f0.toNat 0 - flowX t f))).set f.f1.toNat (wrap64 ((out.set f.f0.toNat (wrap64 (out.getD f.f0.toNat 0 - flowX t f))).getD f.f1.toNat 0 + flowX t f))) := by
  rw [drop_cons h, applyFlows]

set_option maxRecDepth 100000 in
set_option maxHeartbeats 2000000 in
theorem next_calls (m : S53) (A1 A2 : Option Addr) (c1 c2 : Nat) (At Aw : Option Addr) (ct cw : Nat) (t ws : List Int) (w : World)
    (h1 : Kd.C (Kd.int .i64) w A1 m.f1.length m.f1) (h2 : Kd.C k99 w A2 m.f2.length m.f2) (ht : Kd.C (Kd.int .i64) w At t.length t) (hw : Kd.C (Kd.int .i64) w Aw ws.length ws)
    (hl : t.length ≤ 3) (hl1 : m.f1.length = t.length) (hl2 : ws.length = t.length) (hf : flowsIn t.length m.f2) :
    Calls Try.prog 68 #[.agg #[.int .i64 m.f0, .slice A1 m.f1.length c1, .slice A2 m.f2.length c2], .slice At t.length ct, .slice Aw ws.length cw] w fun e w' =>
      ∃ g, e = .returned (.slice (some ⟨g, 0, none⟩) t.length t.length) ∧ w.heap.size ≤ g ∧ OwnInts w' g (nextL m t ws) ∧ Below w.heap.size w w' := by
  have hmk := print_make (P := Try.prog) 50 2 .i64 8 Try.underlying50 info2 (by decide) t.length (by omega)
  have HL1 := Aside0.mk hl1
  have HL2 := Aside0.mk hl2
  have hs1 : m.f1.length ≤ 3 := by omega
  have hs2 : ws.length ≤ 3 := by omega
  have hs3 := h2.2.1
  clear hl1 hl2
  go_enter Try.func68, Try.ntmps68
  go_wp2_with fail
  obtain ⟨W, hW⟩ : ∃ W, W = (w.alloc (.cells #[.int .i64 m.f0, .slice A1 m.f1.length c1, .slice A2 m.f2.length c2] 53)).alloc (.cells (madeCells #[.int .i64 0] t.length) 2) := ⟨_, rfl⟩
  have HB := Aside0.mk (show Below w.heap.size w W by rw [hW]; exact below_alloc (below_alloc (Below.refl _ _) _) _)
  have k0 := Aside0.mk (show W.heap[w.heap.size]? = some (.cells #[.int .i64 m.f0, .slice A1 m.f1.length c1, .slice A2 m.f2.length c2] 53 (0, 0)) by rw [hW]; exact (two_new _ _ _).1)
  have k1 := Aside0.mk (show OwnInts W (w.heap.size + 1) (fill (add3 t m.f1 ws) t.length 0) by rw [hW, fill_none, OwnInts, ← ints_made]; exact (two_new _ _ _).2)
  rw [← hW]
  clear hW hmk
  obtain ⟨G, hG⟩ : ∃ G, G = w.heap.size + 1 := ⟨_, rfl⟩
  have HG := Aside0.mk hG
  have hG' : w.heap.size < G := by omega
  rw [← hG] at k1 ⊢
  clear hG
  go_loopg [17] t.length (fun gg s17 wr => ∃ kk : Nat, kk ≤ t.length ∧ t.length - kk ≤ gg ∧ s17 = .int .i64 kk ∧ Aside0 (Below w.heap.size w wr) ∧ Aside0 (wr.heap[w.heap.size]? = some (.cells #[.int .i64 m.f0, .slice A1 m.f1.length c1, .slice A2 m.f2.length c2] 53 (0, 0))) ∧ Aside0 (OwnInts wr G (fill (add3 t m.f1 ws) t.length kk)))
  case atStart => exact ⟨0, by omega, by omega, rfl, HB, k0, k1⟩
  case round =>
    clear k0 k1 HB
    obtain ⟨kk, hkk, hgk, rfl, HB, k0, k1⟩ := hrel
    by_cases hlt : kk < t.length
    · have z1 : (kk : Int) < (t.length : Int) := by omega
      have z2 : (kk : Int) < (m.f1.length : Int) := by have := HL1.out; omega
      have z3 : (kk : Int) < (ws.length : Int) := by have := HL2.out; omega
      obtain ⟨ad, a, rfl, E0, x0⟩ := at_int (Kd.C_below ht HB.out) kk hlt
      obtain ⟨ad1, b, rfl, E1, x1⟩ := at_int (Kd.C_below h1 HB.out) kk (by omega)
      obtain ⟨ad2, c, rfl, E2, x2⟩ := at_int (Kd.C_below hw HB.out) kk (by omega)
      have x3 := blk_cell k0.out 1
      simp at x3
      have x4 := blk_cell k1.out kk
      have x5 := blk_frozen k1.out kk
      rw [ints_at _ _ (by rw [fill_len _ _ _ (add3_len _ _ _ _ rfl HL1.out HL2.out) (by omega)]; exact hlt)] at x4
      have hset := fill_set (add3 t m.f1 ws) t.length kk _ (add3_len _ _ _ _ rfl HL1.out HL2.out) (add3_at _ _ _ _ _ _ _ E0.out E1.out E2.out)
      have HSET := Aside0.mk hset
      clear hset ht h1 hw
      go_wp2_with fail
      go_still_tail 18, (by kernel_rfl)
      change wpList _ _ _ _ _ wr.drew
      go_wp2
      go_roundg (t.length - (kk + 1))
      case measure => omega
      case rel =>
        refine ⟨kk + 1, by omega, by omega, by go_num, ⟨?_⟩, ⟨?_⟩, ⟨?_⟩⟩
        · exact (below_drew1 HB.out).setCell (p := ⟨G, kk, none⟩) (by simp; omega) _
        · exact blk_far (pw_blk_below (below_drew1 (Below.refl _ _)) k0.out) (by simp; omega) _
        · rw [OwnInts, ← HSET.out, ← ints_set]
          exact blk_set (pw_blk_below (below_drew1 (Below.refl _ _)) k1.out) kk _
    · have z1 : ¬ (kk : Int) < (t.length : Int) := by omega
      have : kk = t.length := by omega
      subst this
      rw [fill_all _ _ (add3_len _ _ _ _ rfl HL1.out HL2.out)] at k1
      have x3 := blk_cell k0.out 2
      simp at x3
      clear h1 hw
      go_wp2_with fail
      go_loopg [42] m.f2.length (fun gg s42 wr => ∃ (kk : Nat) (out : List Int), kk ≤ m.f2.length ∧ m.f2.length - kk ≤ gg ∧ s42 = .int .i64 kk ∧ Aside0 (out.length = t.length) ∧ Aside0 (Below w.heap.size w wr) ∧ Aside0 (OwnInts wr G out) ∧ Aside0 (applyFlows t (m.f2.drop kk) out = nextL m t ws))
      case atStart => exact ⟨0, _, by omega, by omega, rfl, ⟨add3_len _ _ _ _ rfl HL1.out HL2.out⟩, HB, k1, ⟨rfl⟩⟩
      case round =>
        clear k0 k1 HB x3
        obtain ⟨kk, out, hkk, hgk, rfl, HO, HB, k1, A⟩ := hrel
        by_cases hlt : kk < m.f2.length
        · have z1 : (kk : Int) < (m.f2.length : Int) := by omega
          obtain ⟨ad2, f, rfl, E0, x0, x1, x2⟩ := at99 (Kd.C_below h2 HB.out) kk hlt
          obtain ⟨b0, b1, b2, b3⟩ := hf f (List.mem_of_getElem? E0.out)
          have hap := applyFlows_at t m.f2 kk f out E0.out
          rw [A.out] at hap
          have HAP := Aside0.mk hap
          clear hap A hf
          obtain ⟨adt, a, rfl, Ea, ya⟩ := at_int (Kd.C_below ht HB.out) f.f0.toNat (by omega)
          obtain ⟨adt', b, hadt, Eb, yb⟩ := at_int (Kd.C_below ht HB.out) f.f1.toNat (by omega)
          cases hadt
          go_wp2_with fail
          obtain ⟨W, hW⟩ : ∃ W, W = wr.alloc (.cells #[.int .i64 f.f0, .int .i64 f.f1, .int .i64 f.f2] 99) := ⟨_, rfl⟩
          have hbW : Below wr.heap.size wr W := by rw [hW]; exact below_alloc (Below.refl _ _) _
          have v0 : W.cell? ⟨wr.heap.size, 0, none⟩ = some (.int .i64 f.f0) := by rw [hW, blk_cell (heap_alloc_new _ _)]; rfl
          have v1 : W.cell? ⟨wr.heap.size, 1, none⟩ = some (.int .i64 f.f1) := by rw [hW, blk_cell (heap_alloc_new _ _)]; rfl
          have v2 : W.cell? ⟨wr.heap.size, 2, none⟩ = some (.int .i64 f.f2) := by rw [hW, blk_cell (heap_alloc_new _ _)]; rfl
          have hsz : G < wr.heap.size := blk_lt k1.out
          replace ya := pw_cell_below hbW ya
          replace yb := pw_cell_below hbW yb
          replace HB := Aside0.mk (below_step HB.out hbW)
          replace k1 := Aside0.mk (show OwnInts W G out from pw_blk_below hbW k1.out)
          rw [← hW]
          clear hW hbW x0 x1 x2
          generalize wr.heap.size = F at v0 v1 v2 hsz ⊢
          go_quiet (fail)
          have hr : F < W.heap.size := World.block_lt_of_cell? W _ v0
          obtain ⟨W2, hW2⟩ : ∃ W2, W2 = W.drewN nq := ⟨_, rfl⟩
          replace HB := Aside0.mk (show Below w.heap.size w W2 by rw [hW2]; exact pw_below_drewN HB.out nq)
          replace k1 := Aside0.mk (show OwnInts W2 G out by rw [hW2]; exact pw_blk_below (pw_below_drewN (Below.refl _ _) nq) k1.out)
          replace v0 : W2.cell? ⟨F, 0, none⟩ = some (.int .i64 f.f0) := by rw [hW2]; exact v0
          replace v1 : W2.cell? ⟨F, 1, none⟩ = some (.int .i64 f.f1) := by rw [hW2]; exact v1
          rw [← hW2]
          clear hW2 hr v2 ya yb
          have c0 := blk_cell k1.out f.f0.toNat
          have z0 := blk_frozen k1.out f.f0.toNat
          have ho : out.length = t.length := HO.out
          rw [ints_at _ _ (by omega)] at c0
          clear ho
          go_upto_region 12 with (fail)
          obtain ⟨o1, ho1⟩ : ∃ o1, o1 = out.set f.f0.toNat (wrap64 (out.getD f.f0.toNat 0 - flowX t f)) := ⟨_, rfl⟩
          have hX : wrap64 (wrap64 (a - b) * f.f2) / 65536 = flowX t f := by simp [flowX, List.getD_eq_getElem?_getD, Ea.out, Eb.out]
          rw [hX]
          generalize flowX t f = X at ho1 HAP ⊢
          obtain ⟨W3, hW3⟩ : ∃ W3, W3 = W2.setCell ⟨G, f.f0.toNat, none⟩ (.int .i64 (wrap64 (out[f.f0.toNat]?.getD 0 - X))) := ⟨_, rfl⟩
          replace k1 := Aside0.mk (show OwnInts W3 G o1 by rw [hW3, ho1, OwnInts, ← ints_set, List.getD_eq_getElem?_getD]; exact blk_set k1.out _ _)
          replace HB := Aside0.mk (show Below w.heap.size w W3 by rw [hW3]; exact HB.out.setCell (p := ⟨G, f.f0.toNat, none⟩) (by simp; omega) _)
          replace v1 : W3.cell? ⟨F, 1, none⟩ = some (.int .i64 f.f1) := by rw [hW3]; go_simp
          replace HO := Aside0.mk (show o1.length = t.length by rw [ho1, List.length_set]; exact HO.out)
          rw [← hW3]
          rw [← ho1] at HAP
          clear hW3 ho1 hX v0 c0 z0
          have ho : o1.length = t.length := HO.out
          have c0 := blk_cell k1.out f.f1.toNat
          have z0 := blk_frozen k1.out f.f1.toNat
          rw [ints_at _ _ (by omega)] at c0
          clear ho
          go_wp2_with fail
          go_roundg (m.f2.length - (kk + 1))
          case measure => omega
          case rel =>
            refine ⟨kk + 1, _, by omega, by omega, by go_num, ⟨?_⟩, ⟨HB.out.setCell (p := ⟨G, f.f1.toNat, none⟩) (by simp; omega) _⟩, ⟨?_⟩, ⟨HAP.out.symm⟩⟩
            · rw [List.length_set]; exact HO.out
            · rw [OwnInts, ← ints_set, List.getD_eq_getElem?_getD]; exact blk_set k1.out _ _
        · have z1 : ¬ (kk : Int) < (m.f2.length : Int) := by omega
          have : kk = m.f2.length := by omega
          subst this
          go_wp2
          go_ret
          refine ⟨G, rfl, by omega, ?_, HB.out⟩
          rw [← A.out, List.drop_eq_nil_of_le (Nat.le_refl _)]
          exact k1.out
end Go.Proofs.Ytppdckjgdamlnaa

namespace Go.Proofs.Ytppdckjgdamlnaa
open Go.RowKit Go.Proofs.YtppdckjgdamlnaaW.PrintWords Go.Proofs.YtppdckjgdamlnaaW.PrintLast Go.Proofs.YtppdckjgdamlnaaW.PrintMore Q Go.Shelf

def spans (xs : List S48) : List Value := xs.flatMap fun x => [.int .i64 x.f0, .int .i64 x.f1]
def zipSp (lo hi : List Int) : List S48 := List.zipWith (fun a b => ⟨a, b⟩) lo hi
/-- the next box -/
def advL (m : S53) (load b : List S48) : List S48 := zipSp (nextL m (b.map (·.f0)) (load.map (·.f0))) (nextL m (b.map (·.f1)) (load.map (·.f1)))

theorem next_calls2 (m : S53) (A1 A2 : Option Addr) (c1 c2 : Nat) (At Aw : Option Addr) (ct cw : Nat) (t ws : List Int) (n nw : Nat) (w : World)
    (h1 : Kd.C (Kd.int .i64) w A1 m.f1.length m.f1) (h2 : Kd.C k99 w A2 m.f2.length m.f2) (ht : Kd.C (Kd.int .i64) w At t.length t) (hw : Kd.C (Kd.int .i64) w Aw ws.length ws)
    (hn : t.length = n) (hnw : ws.length = nw) (hl : n ≤ 3) (hl1 : m.f1.length = n) (hl2 : nw = n) (hf : flowsIn n m.f2) :
    Calls Try.prog 68 #[.agg #[.int .i64 m.f0, .slice A1 m.f1.length c1, .slice A2 m.f2.length c2], .slice At n ct, .slice Aw nw cw] w fun e w' =>
      ∃ g, e = .returned (.slice (some ⟨g, 0, none⟩) n n) ∧ w.heap.size ≤ g ∧ OwnInts w' g (nextL m t ws) ∧ Below w.heap.size w w' := by
  subst hn; subst hnw
  exact next_calls m A1 A2 c1 c2 At Aw ct cw t ws w h1 h2 ht hw hl hl1 hl2 hf
theorem spans_at (xs : List S48) (k : Nat) (x : S48) (h : xs[k]? = some x) : (spans xs)[k * 2]? = some (.int .i64 x.f0) ∧ (spans xs)[k * 2 + 1]? = some (.int .i64 x.f1) := by
  induction xs generalizing k with
  | nil => simp at h
  | cons y ys ih =>
    cases k with
    | zero => simp at h; subst h; exact ⟨rfl, rfl⟩
    | succ k =>
      have := ih k (by simpa using h)
      rw [show (k + 1) * 2 = k * 2 + 1 + 1 by omega]
      exact this
theorem spans_set (xs : List S48) (k : Nat) (a b : Int) : ((spans xs).set (k * 2) (.int .i64 a)).set (k * 2 + 1) (.int .i64 b) = spans (xs.set k ⟨a, b⟩) := by
  induction xs generalizing k with
  | nil => rfl
  | cons y ys ih =>
    cases k with
    | zero => rfl
    | succ k =>
      rw [show (k + 1) * 2 = k * 2 + 1 + 1 by omega]
      show .int .i64 y.f0 :: .int .i64 y.f1 :: ((spans ys).set (k * 2) _).set (k * 2 + 1) _ = .int .i64 y.f0 :: .int .i64 y.f1 :: spans (ys.set k ⟨a, b⟩)
      rw [ih]
theorem spans_zero (n : Nat) : spans (List.replicate n ⟨0, 0⟩) = List.replicate (n * 2) (.int .i64 0) := by
  induction n with
  | zero => rfl
  | succ n ih => rw [List.replicate_succ, show (n + 1) * 2 = n * 2 + 1 + 1 by omega, List.replicate_succ, List.replicate_succ, ← ih]; rfl
theorem applyFlows_len (t : List Int) (fs : List S99) (out : List Int) : (applyFlows t fs out).length = out.length := by
  induction fs generalizing out with
  | nil => rfl
  | cons f fs ih => rw [applyFlows, ih]; simp
theorem nextL_len (m : S53) (t w : List Int) (n : Nat) (h1 : t.length = n) (h2 : m.f1.length = n) (h3 : w.length = n) : (nextL m t w).length = n := by
  rw [nextL, applyFlows_len]; exact add3_len _ _ _ _ h1 h2 h3
def fillSp (ys : List S48) (n k : Nat) : List S48 := ys.take k ++ List.replicate (n - k) ⟨0, 0⟩
theorem fillSp_set (ys : List S48) (n k : Nat) (y : S48) (hn : ys.length = n) (hy : ys[k]? = some y) : (fillSp ys n k).set k y = fillSp ys n (k + 1) := by
  obtain ⟨hk, hy'⟩ := List.getElem?_eq_some_iff.1 hy
  unfold fillSp
  have hl : (ys.take k).length = k := by simp; omega
  rw [List.set_append, if_neg (by omega), hl, Nat.sub_self, show n - k = (n - (k + 1)) + 1 by omega, List.replicate_succ, List.set_cons_zero, List.take_add_one, hy]
  simp
theorem fillSp_at (ys : List S48) (n k : Nat) (hn : ys.length = n) (hk : k < n) : (fillSp ys n k)[k]? = some ⟨0, 0⟩ := by
  unfold fillSp
  have hl : (ys.take k).length = k := by simp; omega
  rw [List.getElem?_append_right (by omega), hl, Nat.sub_self, show n - k = (n - (k + 1)) + 1 by omega, List.replicate_succ]; rfl
theorem fillSp_all (ys : List S48) (n : Nat) (hn : ys.length = n) : fillSp ys n n = ys := by simp [fillSp, ← hn]
theorem fillSp_none (ys : List S48) (n : Nat) : fillSp ys n 0 = List.replicate n ⟨0, 0⟩ := by simp [fillSp]
theorem zipSp_at (lo hi : List Int) (k : Nat) (h1 : k < lo.length) (h2 : k < hi.length) : (zipSp lo hi)[k]? = some ⟨lo.getD k 0, hi.getD k 0⟩ := by
  simp [zipSp, List.getElem?_zipWith, List.getD_eq_getElem?_getD, h1, h2]
theorem zipSp_len (lo hi : List Int) (n : Nat) (h1 : lo.length = n) (h2 : hi.length = n) : (zipSp lo hi).length = n := by simp [zipSp, h1, h2]
theorem made_zero2 (n : Nat) : madeCells #[.int .i64 0, .int .i64 0] (n * 2) = (List.replicate (n * 2) (Value.int .i64 0)).toArray := by
  apply Array.ext
  · simp [madeCells]
  · intro i h1 h2
    simp only [madeCells, Array.getElem_map, Array.getElem_range]
    have : i % 2 = 0 ∨ i % 2 = 1 := by omega
    rcases this with h | h <;> simp [h]
theorem make_spans (n : Nat) (hn : n ≤ 1000) (w : World) : (Instr.makeSlice 22 (.int .i64 n) (.int .i64 n)).run Try.prog w = .ok (.slice (some ⟨w.heap.size, 0, none⟩) n n) (w.alloc (.cells (spans (List.replicate n ⟨0, 0⟩)).toArray 48)) := by
  obtain ⟨i0, hi0, hz0, hz1, hz2⟩ := info_parts info48
  have h := run_makeSlice w 22 48 i0 _ Try.underlying22 hi0 hz0 .i64 .i64 (n : Int) (n : Int) (by omega) (by omega) (by rw [hz1]; omega) (by rw [hz2]; omega) (by omega)
  rw [h, hz1]
  have e : madeCells (Value.agg #[.int .i64 0, .int .i64 0]).cells (n * 2) = (spans (List.replicate n ⟨0, 0⟩)).toArray := by
    rw [spans_zero]; exact made_zero2 n
  simp [e]
/-- where the two ends of advance stand: 'ends' (block G) after e rounds -/
def EndsAt (wr : World) (G n : Nat) (lo hi : List Int) (e : Nat) : Prop :=
  match e with
  | 0 => wr.heap[G]? = some (.cells #[.slice none 0 0, .slice none 0 0] 107 (0, 0))
  | 1 => ∃ g0, wr.heap[G]? = some (.cells #[.slice (some ⟨g0, 0, none⟩) n n, .slice none 0 0] 107 (0, 0)) ∧ OwnInts wr g0 lo
  | _ => ∃ g0 g1, wr.heap[G]? = some (.cells #[.slice (some ⟨g0, 0, none⟩) n n, .slice (some ⟨g1, 0, none⟩) n n] 107 (0, 0)) ∧ OwnInts wr g0 lo ∧ OwnInts wr g1 hi
theorem EndsAt.below {w w1 : World} {G n : Nat} {lo hi : List Int} {e : Nat} (h : EndsAt w G n lo hi e) (hb : Below w.heap.size w w1) : EndsAt w1 G n lo hi e := by
  match e, h with
  | 0, h => exact pw_blk_below hb h
  | 1, ⟨g0, h, h0⟩ => exact ⟨g0, pw_blk_below hb h, pw_blk_below hb h0⟩
  | e + 2, ⟨g0, g1, h, h0, h1⟩ => exact ⟨g0, g1, pw_blk_below hb h, pw_blk_below hb h0, pw_blk_below hb h1⟩
theorem cell_alloc {w : World} {a : Addr} {v : Value} (h : w.cell? a = some v) (o : Obj) : (w.alloc o).cell? a = some v := pw_cell_below (below_alloc (Below.refl _ w) o) h
theorem oc1 (x : Int) : ∀ u ∈ [Value.int .i64 x], u.oneCell' = true := by simp [Value.oneCell']
theorem row_reads {w : World} {base n : Nat} {v : Value} {xs : List Int} (h : w.ownsRow base 2 1 v n (xs.map (Value.int .i64))) (hn : xs.length = n) : ∃ A c, v = .slice A xs.length c ∧ Kd.C (Kd.int .i64) w A xs.length xs := by
  subst hn
  have hR : (Kd.int .i64).R 2 w base (fun _ => True) v xs := Kd.R_of_own h (fun _ _ => trivial)
  obtain ⟨A, c, e, _, hC⟩ := Kd.R_reads hR
  exact ⟨A, c, e, hC⟩
/-- Two appends, one behind the other, to two rows that are apart: both rows, apart again. -/
theorem two_rows {W0 W1 W2 wa wb : World} {base n ga gb ca cb : Nat} {e : TypeId} {u1 u2 : Value} {l1 l2 m1 m2 : List Value} {k1 k2 : Nat}
    (h1 : W0.ownsRow base e 1 u1 k1 l1) (h2 : W0.ownsRow base e 1 u2 k2 l2) (hne : u1.ownBlock = none ∨ u1.ownBlock ≠ u2.ownBlock) (hb : base ≤ W0.heap.size)
    (b1 : Below W0.heap.size W0 W1) (ga1 : W1.grownBy wa u1.ownBlock) (at1 : u1.ownBlock = some ga ∨ ga = W1.heap.size) (lt1 : ga < wa.heap.size) (o1 : wa.ownsRow base e 1 (.slice (some ⟨ga, 0, none⟩) n ca) n m1)
    (b2 : Below wa.heap.size wa W2) (gb1 : W2.grownBy wb u2.ownBlock) (at2 : u2.ownBlock = some gb ∨ gb = W2.heap.size) (o2 : wb.ownsRow base e 1 (.slice (some ⟨gb, 0, none⟩) n cb) n m2) :
    wb.ownsRow base e 1 (.slice (some ⟨ga, 0, none⟩) n ca) n m1 ∧ ga ≠ gb ∧ Below base W0 wb := by
  have hk : u2.ownBlock ≠ some ga := fun h => by
    have l2 := own_lt h2 _ h
    rcases at1 with h' | h'
    · rcases hne with hn | hn
      · rw [hn] at h'; cases h'
      · exact hn (h'.trans h.symm)
    · have := b1.size; omega
  refine ⟨World.ownsRow.kept (pw_own_below o1 b2) gb1 (.inr (fun h => hk h.symm)), fun h => ?_, ?_⟩
  · subst h
    rcases at2 with h' | h'
    · exact hk h'
    · have := b2.size; omega
  · have c1 : Below base W0 wa := pw_below_grown (b1.mono hb) _ (Nat.le_trans hb b1.size) ga1 (fun k hk => own_base h1 k hk)
    have c2 : Below base W0 W2 := below_then c1 (Nat.le_trans hb c1.size) b2
    exact pw_below_grown c2 _ (Nat.le_trans hb c2.size) gb1 (fun k hk => own_base h2 k hk)
theorem take_next {α β : Type} (f : α → β) (xs : List α) (k : Nat) (x : α) (h : xs[k]? = some x) : (xs.map f).take (k + 1) = (xs.map f).take k ++ [f x] := by
  rw [List.take_add_one, List.getElem?_map, h]; rfl
/-- a row of whole numbers of the call's own -/
def Row (w : World) (base : Nat) (v : Value) (n : Nat) (xs : List Int) : Prop := w.ownsRow base 2 1 v n (xs.map (Value.int .i64))

set_option maxRecDepth 100000 in
set_option maxHeartbeats 8000000 in
theorem advance_calls (s : Sys) (A0 A1 A2 A3 : Option Addr) (c0 c1 c2 c3 : Nat) (slot mode : Nat) (B : Option Addr) (cb : Nat) (b : List S48) (w : World) (hs : SysAt w s A0 A1 A2 A3 c0 c1 c2 c3) (hr : Kd.C k48 w B b.length b)
    (load : List S48) (hload : s.loads[slot]? = some load) (m : S53) (hm : s.modes[mode]? = some m) (hl : b.length ≤ 3) (hl1 : m.f1.length = b.length) (hl2 : load.length = b.length) (hf : flowsIn b.length m.f2) :
    Calls Try.prog 48 #[sysV s A0 A1 A2 A3 c0 c1 c2 c3, .int .i64 slot, .int .i64 mode, .slice B b.length cb] w fun e w' =>
      ∃ g, e = .returned (.slice (some ⟨g, 0, none⟩) b.length b.length) ∧ w.heap.size ≤ g ∧ w'.heap[g]? = some (.cells (spans (advL m load b)).toArray 48 (0, 0)) ∧ Below w.heap.size w w' := by
  have hslot := (List.getElem?_eq_some_iff.1 hload).1
  have hmode := (List.getElem?_eq_some_iff.1 hm).1
  have z1 : (slot : Int) < (s.loads.length : Int) := by omega
  have z2 : (mode : Int) < (s.modes.length : Int) := by omega
  have HLOAD := Aside0.mk hload
  have HM := Aside0.mk hm
  have HL1 := Aside0.mk hl1
  have HL2 := Aside0.mk hl2
  have HS := Aside0.mk hs
  have z3 : load.length ≤ 3 := by omega
  clear hload hm hl1 hl2 hs
  simp only [sysV]
  go_enter Try.func48, Try.ntmps48
  go_wp2_with fail
  obtain ⟨W, hW⟩ : ∃ W, W = (w.alloc (.cells #[.slice A0 s.lim.length c0, .slice A1 s.start.length c1, .slice A2 s.modes.length c2, .slice A3 s.loads.length c3] 26)).alloc (.cells #[.slice none 0 0, .slice none 0 0] 107) := ⟨_, rfl⟩
  have HB := Aside0.mk (show Below w.heap.size w W by rw [hW]; exact below_alloc (below_alloc (Below.refl _ _) _) _)
  have k0 := Aside0.mk (show W.heap[w.heap.size]? = some (.cells #[.slice A0 s.lim.length c0, .slice A1 s.start.length c1, .slice A2 s.modes.length c2, .slice A3 s.loads.length c3] 26 (0, 0)) by rw [hW]; exact (two_new _ _ _).1)
  have k1 := Aside0.mk (show EndsAt W (w.heap.size + 1) b.length (nextL m (b.map (·.f0)) (load.map (·.f0))) (nextL m (b.map (·.f1)) (load.map (·.f1))) 0 by rw [hW]; exact (two_new _ _ _).2)
  rw [← hW]
  clear hW
  obtain ⟨G, hG⟩ : ∃ G, G = w.heap.size + 1 := ⟨_, rfl⟩
  have hG' : w.heap.size < G := by omega
  rw [← hG] at k1 ⊢
  clear hG
  go_loopg [18] 2 (fun gg s18 wr => ∃ e : Nat, e ≤ 2 ∧ 2 - e ≤ gg ∧ s18 = .int .i64 e ∧ Aside0 (Below w.heap.size w wr) ∧ Aside0 (wr.heap[w.heap.size]? = some (.cells #[.slice A0 s.lim.length c0, .slice A1 s.start.length c1, .slice A2 s.modes.length c2, .slice A3 s.loads.length c3] 26 (0, 0))) ∧ Aside0 (EndsAt wr G b.length (nextL m (b.map (·.f0)) (load.map (·.f0))) (nextL m (b.map (·.f1)) (load.map (·.f1))) e))
  case atStart => exact ⟨0, by omega, by omega, rfl, HB, k0, k1⟩
  case round =>
    clear k0 k1 HB
    obtain ⟨e, he, hge, rfl, HB, k0, k1⟩ := hrel
    obtain rfl | rfl | rfl : e = 0 ∨ e = 1 ∨ e = 2 := by omega
    · have x3 := blk_cell k0.out 3
      have x2 := blk_cell k0.out 2
      simp at x3 x2
      go_wp2_with fail
      obtain ⟨wo, rfl⟩ : ∃ wo : World, wo = wr := ⟨_, rfl⟩
      go_loopg [11, 12, 23] b.length (fun gg s11 s12 s23 wi => ∃ kk : Nat, kk ≤ b.length ∧ b.length - kk ≤ gg ∧ s23 = .int .i64 kk ∧ Aside0 (Below wo.heap.size wo wi) ∧ Aside0 (Row wi wo.heap.size s11 kk ((b.map (·.f0)).take kk)) ∧ Aside0 (Row wi wo.heap.size s12 kk ((load.map (·.f0)).take kk)) ∧ Aside0 (s11.ownBlock = none ∨ s11.ownBlock ≠ s12.ownBlock))
      case atStart => exact ⟨0, by omega, by omega, rfl, ⟨Below.refl _ _⟩, ⟨own_nil _ _ _ _⟩, ⟨own_nil _ _ _ _⟩, ⟨.inl rfl⟩⟩
      case round =>
        obtain ⟨kk, hkk, hgk, rfl, HI, r1, r2, ap⟩ := hrel
        by_cases hlt : kk < b.length
        · have y1 : (kk : Int) < (b.length : Int) := by omega
          have y2 : (kk : Int) < (load.length : Int) := by have := HL2.out; omega
          obtain ⟨ad, x, rfl, E0, w0, w1⟩ := at48 (Kd.C_below hr (below_step HB.out HI.out)) kk hlt
          obtain ⟨adl, ld, Al, cl, hA3, E1, w2, _, hl2⟩ := atL48 (Kd.C_below HS.out.r3 (below_step HB.out HI.out)) slot hslot
          cases HLOAD.out.symm.trans E1.out
          obtain ⟨ad2, y, hAl, E2, w3, w4⟩ := at48 hl2.out kk (by have := HL2.out; omega)
          cases hAl
          cases hA3
          have x4 := (HI.out.cell (World.block_lt_of_cell? wo _ x3)).trans x3
          have hX : w.heap.size < wr.heap.size := by have := HI.out.size; have := blk_lt k0.out; omega
          have v2 := fun o => cell_alloc w2 o
          have v3 := fun o => cell_alloc w3 o
          have v4 := fun o => cell_alloc w4 o
          clear hr x3 x2 w2 w3 w4
          go_wp2_with fail
          obtain ⟨W0, hW0⟩ : ∃ W0, W0 = (wr.alloc (.cells #[.int .i64 x.f0, .int .i64 x.f1] 48)).alloc (.cells #[.int .i64 y.f0, .int .i64 y.f1] 48) := ⟨_, rfl⟩
          have hbW : Below wr.heap.size wr W0 := by rw [hW0]; exact below_alloc (below_alloc (Below.refl _ _) _) _
          have f0 : W0.cell? ⟨wr.heap.size, 0, none⟩ = some (.int .i64 x.f0) := by rw [hW0, blk_cell (two_new _ _ _).1]; rfl
          have g0 : W0.cell? ⟨wr.heap.size + 1, 0, none⟩ = some (.int .i64 y.f0) := by rw [hW0, blk_cell (two_new _ _ _).2]; rfl
          have h1 : W0.ownsRow wo.heap.size 2 1 u11 kk _ := pw_own_below r1.out hbW
          have h2 : W0.ownsRow wo.heap.size 2 1 u12 kk _ := pw_own_below r2.out hbW
          have hne : u12.ownBlock = none ∨ u12.ownBlock ≠ u11.ownBlock := by
            rcases ap.out with h | h
            · rw [h]; cases u12.ownBlock <;> simp
            · exact .inr (Ne.symm h)
          have a1 : u11.ownBlock ≠ some wr.heap.size := fun h => by have := own_lt r1.out _ h; omega
          have a2 : u11.ownBlock ≠ some (wr.heap.size + 1) := fun h => by have := own_lt r1.out _ h; omega
          have b1 : u12.ownBlock ≠ some wr.heap.size := fun h => by have := own_lt r2.out _ h; omega
          have b2 : u12.ownBlock ≠ some (wr.heap.size + 1) := fun h => by have := own_lt r2.out _ h; omega
          have hge : wo.heap.size ≤ W0.heap.size := Nat.le_trans HI.out.size hbW.size
          have NA0 := Aside0.mk (show u11.ownBlock ≠ some W0.heap.size from fun h => by have := own_lt h1 _ h; omega)
          have NA1 := Aside0.mk (show u11.ownBlock ≠ some (W0.heap.size + 1) from fun h => by have := own_lt h1 _ h; omega)
          have NB0 := Aside0.mk (show u12.ownBlock ≠ some W0.heap.size from fun h => by have := own_lt h2 _ h; omega)
          have NB1 := Aside0.mk (show u12.ownBlock ≠ some (W0.heap.size + 1) from fun h => by have := own_lt h2 _ h; omega)
          have HNE1 := ap
          have LK1 := Aside0.mk (show kk + 1 ≤ maxLen by unfold maxLen; omega)
          have LK2 := Aside0.mk (show (kk + 1) * 8 ≤ 140737488355328 by omega)
          have HNE2 := Aside0.mk hne
          obtain ⟨i0, hi0, hz0, hz1, hz2⟩ := info_parts info2
          have lX := World.block_lt_of_cell? W0 _ f0
          have lY := World.block_lt_of_cell? W0 _ g0
          have HW0 := Aside0.mk hW0
          have HBW := Aside0.mk hbW
          have H1 := Aside0.mk h1
          have H2 := Aside0.mk h2
          rw [← hW0]
          clear hW0 hbW h1 h2 hne w0 w1 v2 v3 v4 x4 r1 r2
          generalize hXX : wr.heap.size = X at f0 g0 a1 a2 b1 b2 lX lY ⊢
          go_region_held3 (fun w' => w'.cell? ⟨X, 0, none⟩ = some (.int .i64 x.f0) ∧ w'.cell? ⟨X + 1, 0, none⟩ = some (.int .i64 y.f0))
            ((go_split_ands; refine ⟨?_, ?_⟩ <;> first | exact growa.cell (by assumption) (Ne.symm a1) | exact growa.cell (by assumption) (Ne.symm a2) | exact growb.cell (by assumption) (Ne.symm b1) | exact growb.cell (by assumption) (Ne.symm b2) | go_keep))
            (first
            | (refine step_append_lies (o := ⟨some 42, _, _, _, _, _⟩) _ (by rfl) (.tmp 38) (.tmp 41) 50 (by rfl) wo.heap.size 2 i0 (.int .i64 0) 1 8 Try.underlying50 hi0 hz0 hz1 hz2 rfl (Nat.succ_pos 0) u11 kk (((b.map (·.f0)).take kk).map (Value.int .i64)) (by rfl) ?own _ 1 1 [.int .i64 x.f0] (by rfl) (by rfl) ?news (oc1 _) (Nat.succ_pos 0) LK1.out LK2.out ?base _ (by rfl) ?_
               (case own => first | exact (H1.out.alloc (.cells #[.int .i64 x.f0] 2)).drew | exact ((H1.out.alloc (.cells #[.int .i64 x.f0] 2)).alloc (.cells #[.int .i64 y.f0] 2)).drew | exact ((H1.out.alloc (.cells #[.int .i64 y.f0] 2)).alloc (.cells #[.int .i64 x.f0] 2)).drew | exact (World.ownsRow.kept (H1.out.alloc (.cells #[.int .i64 y.f0] 2)).drew growb HNE1.out).alloc (.cells #[.int .i64 x.f0] 2) | exact World.ownsRow.kept ((H1.out.alloc (.cells #[.int .i64 x.f0] 2)).alloc (.cells #[.int .i64 y.f0] 2)).drew growb HNE1.out | exact World.ownsRow.kept ((H1.out.alloc (.cells #[.int .i64 y.f0] 2)).alloc (.cells #[.int .i64 x.f0] 2)).drew growb HNE1.out)
               (case news => first | exact World.news_of_block (cs := #[.int .i64 x.f0]) (t := 2) (fr := (0, 0)) (heap_alloc_new W0 (.cells #[.int .i64 x.f0] 2)) | exact World.news_of_block (cs := #[.int .i64 x.f0]) (t := 2) (fr := (0, 0)) (two_new W0 (.cells #[.int .i64 x.f0] 2) (.cells #[.int .i64 y.f0] 2)).1 | exact World.news_of_block (cs := #[.int .i64 x.f0]) (t := 2) (fr := (0, 0)) (two_new W0 (.cells #[.int .i64 y.f0] 2) (.cells #[.int .i64 x.f0] 2)).2 | exact World.news_of_block (cs := #[.int .i64 x.f0]) (t := 2) (fr := (0, 0)) (heap_alloc_new wb (.cells #[.int .i64 x.f0] 2)) | exact fun j u hu => growb.cell (World.news_of_block (cs := #[.int .i64 x.f0]) (t := 2) (fr := (0, 0)) (two_new W0 (.cells #[.int .i64 x.f0] 2) (.cells #[.int .i64 y.f0] 2)).1 j u hu) (by rw [add_plain]; exact (Ne.symm NB0.out)) | exact fun j u hu => growb.cell (World.news_of_block (cs := #[.int .i64 x.f0]) (t := 2) (fr := (0, 0)) (two_new W0 (.cells #[.int .i64 y.f0] 2) (.cells #[.int .i64 x.f0] 2)).2 j u hu) (by rw [add_plain]; exact (Ne.symm NB1.out)))
               (case base => first | (simp; omega) | (have := growb.size; simp at this; simp; omega) | (have := growb.size; simp at this; omega))
               intro ga ca wa owna growa ata lta)
            | (refine step_append_lies (o := ⟨some 47, _, _, _, _, _⟩) _ (by rfl) (.tmp 43) (.tmp 46) 50 (by rfl) wo.heap.size 2 i0 (.int .i64 0) 1 8 Try.underlying50 hi0 hz0 hz1 hz2 rfl (Nat.succ_pos 0) u12 kk (((load.map (·.f0)).take kk).map (Value.int .i64)) (by rfl) ?own _ 1 1 [.int .i64 y.f0] (by rfl) (by rfl) ?news (oc1 _) (Nat.succ_pos 0) LK1.out LK2.out ?base _ (by rfl) ?_
               (case own => first | exact (H2.out.alloc (.cells #[.int .i64 y.f0] 2)).drew | exact ((H2.out.alloc (.cells #[.int .i64 y.f0] 2)).alloc (.cells #[.int .i64 x.f0] 2)).drew | exact ((H2.out.alloc (.cells #[.int .i64 x.f0] 2)).alloc (.cells #[.int .i64 y.f0] 2)).drew | exact (World.ownsRow.kept (H2.out.alloc (.cells #[.int .i64 x.f0] 2)).drew growa HNE2.out).alloc (.cells #[.int .i64 y.f0] 2) | exact World.ownsRow.kept ((H2.out.alloc (.cells #[.int .i64 y.f0] 2)).alloc (.cells #[.int .i64 x.f0] 2)).drew growa HNE2.out | exact World.ownsRow.kept ((H2.out.alloc (.cells #[.int .i64 x.f0] 2)).alloc (.cells #[.int .i64 y.f0] 2)).drew growa HNE2.out)
               (case news => first | exact World.news_of_block (cs := #[.int .i64 y.f0]) (t := 2) (fr := (0, 0)) (heap_alloc_new W0 (.cells #[.int .i64 y.f0] 2)) | exact World.news_of_block (cs := #[.int .i64 y.f0]) (t := 2) (fr := (0, 0)) (two_new W0 (.cells #[.int .i64 y.f0] 2) (.cells #[.int .i64 x.f0] 2)).1 | exact World.news_of_block (cs := #[.int .i64 y.f0]) (t := 2) (fr := (0, 0)) (two_new W0 (.cells #[.int .i64 x.f0] 2) (.cells #[.int .i64 y.f0] 2)).2 | exact World.news_of_block (cs := #[.int .i64 y.f0]) (t := 2) (fr := (0, 0)) (heap_alloc_new wa (.cells #[.int .i64 y.f0] 2)) | exact fun j u hu => growa.cell (World.news_of_block (cs := #[.int .i64 y.f0]) (t := 2) (fr := (0, 0)) (two_new W0 (.cells #[.int .i64 y.f0] 2) (.cells #[.int .i64 x.f0] 2)).1 j u hu) (by rw [add_plain]; exact (Ne.symm NA0.out)) | exact fun j u hu => growa.cell (World.news_of_block (cs := #[.int .i64 y.f0]) (t := 2) (fr := (0, 0)) (two_new W0 (.cells #[.int .i64 x.f0] 2) (.cells #[.int .i64 y.f0] 2)).2 j u hu) (by rw [add_plain]; exact (Ne.symm NA1.out)))
               (case base => first | (simp; omega) | (have := growa.size; simp at this; simp; omega) | (have := growa.size; simp at this; omega))
               intro gb cb_ wb ownb growb atb ltb))
          all_goals
            obtain ⟨q1, q2, q3⟩ := two_rows H1.out H2.out HNE1.out hge (by repeat (first | exact Below.refl _ _ | apply below_drew1 | apply below_alloc)) growa ata lta owna (by repeat (first | exact Below.refl _ _ | apply below_drew1 | apply below_alloc)) growb atb ownb
            go_wp2_with fail
            go_roundg (b.length - (kk + 1))
            case measure => omega
            case rel => exact ⟨kk + 1, by omega, by omega, by go_num, ⟨HI.out.trans (HBW.out.mono HI.out.size |>.trans q3)⟩, ⟨by rw [Row, take_next _ _ _ _ E0.out]; simpa using q1⟩, ⟨by rw [Row, take_next _ _ _ _ E2.out]; simpa using ownb⟩, ⟨.inr (by simp [Value.ownBlock, q2])⟩⟩
        · have y1 : ¬ (kk : Int) < (b.length : Int) := by omega
          have : kk = b.length := by omega
          subst this
          have r1' := r1.out
          have r2' := r2.out
          rw [Row, List.take_of_length_le (by simp)] at r1'
          rw [Row, List.take_of_length_le (by simp [HL2.out])] at r2'
          obtain ⟨At, ct, e1, q1⟩ := row_reads r1' (by simp)
          obtain ⟨Aw, cw, e2, q2⟩ := row_reads r2' (by simp [HL2.out])
          have R1 := Aside0.mk q1
          have R2 := Aside0.mk q2
          rw [e1, e2]
          clear r1' r2' q1 q2 r1 r2 ap e1 e2
          obtain ⟨adm, m', Am, cm, Af, cf, hA2, E1, w0, w1, w2, m1, m2, m3, m4⟩ := at53 (Kd.C_below HS.out.r2 (below_step HB.out HI.out)) mode hmode
          cases HM.out.symm.trans E1.out
          cases hA2
          have x4 := (HI.out.cell (World.block_lt_of_cell? wo _ x2)).trans x2
          clear x2 x3
          go_wp2_with fail
          refine (next_calls2 m _ _ _ _ _ _ _ _ (b.map (·.f0)) (load.map (·.f0)) _ _ _ m2.out m4.out R1.out R2.out (by simp) (by simp) hl HL1.out HL2.out hf).mono ?_
          rintro e W2 ⟨g, rfl, hg, ho, hb⟩
          have K1 := pw_blk_below (below_step HI.out hb) k1.out
          have K0 := pw_blk_below (below_step HI.out hb) k0.out
          have HB2 := Aside0.mk (below_step HB.out (below_step HI.out hb))
          have HO := Aside0.mk ho
          have c9 := blk_cell K1 0
          simp at c9
          have z9 := blk_frozen K1 0
          have hGl : G < wo.heap.size := blk_lt k1.out
          have hgG : g ≠ G := by have := HI.out.size; omega
          have KK0 := Aside0.mk K0
          have KK1 := Aside0.mk K1
          clear hb ho K0 K1
          go_wp2_with fail
          go_roundg 1
          case measure => omega
          case rel =>
            refine ⟨1, by omega, by omega, by go_num, ⟨HB2.out.setCell (p := ⟨G, 0, none⟩) (by simp; omega) _⟩, ⟨blk_far KK0.out (by simp; omega) _⟩, ⟨⟨g, ?_, blk_far HO.out (by simp; omega) _⟩⟩⟩
            exact blk_set KK1.out 0 _
    · have x3 := blk_cell k0.out 3
      have x2 := blk_cell k0.out 2
      simp at x3 x2
      go_wp2_with fail
      obtain ⟨wo, rfl⟩ : ∃ wo : World, wo = wr := ⟨_, rfl⟩
      go_loopg [11, 12, 23] b.length (fun gg s11 s12 s23 wi => ∃ kk : Nat, kk ≤ b.length ∧ b.length - kk ≤ gg ∧ s23 = .int .i64 kk ∧ Aside0 (Below wo.heap.size wo wi) ∧ Aside0 (Row wi wo.heap.size s11 kk ((b.map (·.f1)).take kk)) ∧ Aside0 (Row wi wo.heap.size s12 kk ((load.map (·.f1)).take kk)) ∧ Aside0 (s11.ownBlock = none ∨ s11.ownBlock ≠ s12.ownBlock))
      case atStart => exact ⟨0, by omega, by omega, rfl, ⟨Below.refl _ _⟩, ⟨own_nil _ _ _ _⟩, ⟨own_nil _ _ _ _⟩, ⟨.inl rfl⟩⟩
      case round =>
        obtain ⟨kk, hkk, hgk, rfl, HI, r1, r2, ap⟩ := hrel
        by_cases hlt : kk < b.length
        · have y1 : (kk : Int) < (b.length : Int) := by omega
          have y2 : (kk : Int) < (load.length : Int) := by have := HL2.out; omega
          obtain ⟨ad, x, rfl, E0, w0, w1⟩ := at48 (Kd.C_below hr (below_step HB.out HI.out)) kk hlt
          obtain ⟨adl, ld, Al, cl, hA3, E1, w2, _, hl2⟩ := atL48 (Kd.C_below HS.out.r3 (below_step HB.out HI.out)) slot hslot
          cases HLOAD.out.symm.trans E1.out
          obtain ⟨ad2, y, hAl, E2, w3, w4⟩ := at48 hl2.out kk (by have := HL2.out; omega)
          cases hAl
          cases hA3
          have x4 := (HI.out.cell (World.block_lt_of_cell? wo _ x3)).trans x3
          have hX : w.heap.size < wr.heap.size := by have := HI.out.size; have := blk_lt k0.out; omega
          have v2 := fun o => cell_alloc w2 o
          have v3 := fun o => cell_alloc w3 o
          have v4 := fun o => cell_alloc w4 o
          clear hr x3 x2 w2 w3 w4
          go_wp2_with fail
          obtain ⟨W0, hW0⟩ : ∃ W0, W0 = (wr.alloc (.cells #[.int .i64 x.f0, .int .i64 x.f1] 48)).alloc (.cells #[.int .i64 y.f0, .int .i64 y.f1] 48) := ⟨_, rfl⟩
          have hbW : Below wr.heap.size wr W0 := by rw [hW0]; exact below_alloc (below_alloc (Below.refl _ _) _) _
          have f0 : W0.cell? ⟨wr.heap.size, 1, none⟩ = some (.int .i64 x.f1) := by rw [hW0, blk_cell (two_new _ _ _).1]; rfl
          have g0 : W0.cell? ⟨wr.heap.size + 1, 1, none⟩ = some (.int .i64 y.f1) := by rw [hW0, blk_cell (two_new _ _ _).2]; rfl
          have h1 : W0.ownsRow wo.heap.size 2 1 u11 kk _ := pw_own_below r1.out hbW
          have h2 : W0.ownsRow wo.heap.size 2 1 u12 kk _ := pw_own_below r2.out hbW
          have hne : u12.ownBlock = none ∨ u12.ownBlock ≠ u11.ownBlock := by
            rcases ap.out with h | h
            · rw [h]; cases u12.ownBlock <;> simp
            · exact .inr (Ne.symm h)
          have a1 : u11.ownBlock ≠ some wr.heap.size := fun h => by have := own_lt r1.out _ h; omega
          have a2 : u11.ownBlock ≠ some (wr.heap.size + 1) := fun h => by have := own_lt r1.out _ h; omega
          have b1 : u12.ownBlock ≠ some wr.heap.size := fun h => by have := own_lt r2.out _ h; omega
          have b2 : u12.ownBlock ≠ some (wr.heap.size + 1) := fun h => by have := own_lt r2.out _ h; omega
          have hge : wo.heap.size ≤ W0.heap.size := Nat.le_trans HI.out.size hbW.size
          have NA0 := Aside0.mk (show u11.ownBlock ≠ some W0.heap.size from fun h => by have := own_lt h1 _ h; omega)
          have NA1 := Aside0.mk (show u11.ownBlock ≠ some (W0.heap.size + 1) from fun h => by have := own_lt h1 _ h; omega)
          have NB0 := Aside0.mk (show u12.ownBlock ≠ some W0.heap.size from fun h => by have := own_lt h2 _ h; omega)
          have NB1 := Aside0.mk (show u12.ownBlock ≠ some (W0.heap.size + 1) from fun h => by have := own_lt h2 _ h; omega)
          have HNE1 := ap
          have LK1 := Aside0.mk (show kk + 1 ≤ maxLen by unfold maxLen; omega)
          have LK2 := Aside0.mk (show (kk + 1) * 8 ≤ 140737488355328 by omega)
          have HNE2 := Aside0.mk hne
          obtain ⟨i0, hi0, hz0, hz1, hz2⟩ := info_parts info2
          have lX := World.block_lt_of_cell? W0 _ f0
          have lY := World.block_lt_of_cell? W0 _ g0
          have HW0 := Aside0.mk hW0
          have HBW := Aside0.mk hbW
          have H1 := Aside0.mk h1
          have H2 := Aside0.mk h2
          rw [← hW0]
          clear hW0 hbW h1 h2 hne w0 w1 v2 v3 v4 x4 r1 r2
          generalize hXX : wr.heap.size = X at f0 g0 a1 a2 b1 b2 lX lY ⊢
          go_region_held3 (fun w' => w'.cell? ⟨X, 1, none⟩ = some (.int .i64 x.f1) ∧ w'.cell? ⟨X + 1, 1, none⟩ = some (.int .i64 y.f1))
            ((go_split_ands; refine ⟨?_, ?_⟩ <;> first | exact growa.cell (by assumption) (Ne.symm a1) | exact growa.cell (by assumption) (Ne.symm a2) | exact growb.cell (by assumption) (Ne.symm b1) | exact growb.cell (by assumption) (Ne.symm b2) | go_keep))
            (first
            | (refine step_append_lies (o := ⟨some 52, _, _, _, _, _⟩) _ (by rfl) (.tmp 48) (.tmp 51) 50 (by rfl) wo.heap.size 2 i0 (.int .i64 0) 1 8 Try.underlying50 hi0 hz0 hz1 hz2 rfl (Nat.succ_pos 0) u11 kk (((b.map (·.f1)).take kk).map (Value.int .i64)) (by rfl) ?own2 _ 1 1 [.int .i64 x.f1] (by rfl) (by rfl) ?news2 (oc1 _) (Nat.succ_pos 0) LK1.out LK2.out ?base2 _ (by rfl) ?_
               (case own2 => first | exact (H1.out.alloc (.cells #[.int .i64 x.f1] 2)).drew | exact ((H1.out.alloc (.cells #[.int .i64 x.f1] 2)).alloc (.cells #[.int .i64 y.f1] 2)).drew | exact ((H1.out.alloc (.cells #[.int .i64 y.f1] 2)).alloc (.cells #[.int .i64 x.f1] 2)).drew | exact (World.ownsRow.kept (H1.out.alloc (.cells #[.int .i64 y.f1] 2)).drew growb HNE1.out).alloc (.cells #[.int .i64 x.f1] 2) | exact World.ownsRow.kept ((H1.out.alloc (.cells #[.int .i64 x.f1] 2)).alloc (.cells #[.int .i64 y.f1] 2)).drew growb HNE1.out | exact World.ownsRow.kept ((H1.out.alloc (.cells #[.int .i64 y.f1] 2)).alloc (.cells #[.int .i64 x.f1] 2)).drew growb HNE1.out)
               (case news2 => first | exact World.news_of_block (cs := #[.int .i64 x.f1]) (t := 2) (fr := (0, 0)) (heap_alloc_new W0 (.cells #[.int .i64 x.f1] 2)) | exact World.news_of_block (cs := #[.int .i64 x.f1]) (t := 2) (fr := (0, 0)) (two_new W0 (.cells #[.int .i64 x.f1] 2) (.cells #[.int .i64 y.f1] 2)).1 | exact World.news_of_block (cs := #[.int .i64 x.f1]) (t := 2) (fr := (0, 0)) (two_new W0 (.cells #[.int .i64 y.f1] 2) (.cells #[.int .i64 x.f1] 2)).2 | exact World.news_of_block (cs := #[.int .i64 x.f1]) (t := 2) (fr := (0, 0)) (heap_alloc_new wb (.cells #[.int .i64 x.f1] 2)) | exact fun j u hu => growb.cell (World.news_of_block (cs := #[.int .i64 x.f1]) (t := 2) (fr := (0, 0)) (two_new W0 (.cells #[.int .i64 x.f1] 2) (.cells #[.int .i64 y.f1] 2)).1 j u hu) (by rw [add_plain]; exact (Ne.symm NB0.out)) | exact fun j u hu => growb.cell (World.news_of_block (cs := #[.int .i64 x.f1]) (t := 2) (fr := (0, 0)) (two_new W0 (.cells #[.int .i64 y.f1] 2) (.cells #[.int .i64 x.f1] 2)).2 j u hu) (by rw [add_plain]; exact (Ne.symm NB1.out)))
               (case base2 => first | (simp; omega) | (have := growb.size; simp at this; simp; omega) | (have := growb.size; simp at this; omega))
               intro ga ca wa owna growa ata lta)
            | (refine step_append_lies (o := ⟨some 57, _, _, _, _, _⟩) _ (by rfl) (.tmp 53) (.tmp 56) 50 (by rfl) wo.heap.size 2 i0 (.int .i64 0) 1 8 Try.underlying50 hi0 hz0 hz1 hz2 rfl (Nat.succ_pos 0) u12 kk (((load.map (·.f1)).take kk).map (Value.int .i64)) (by rfl) ?own2 _ 1 1 [.int .i64 y.f1] (by rfl) (by rfl) ?news2 (oc1 _) (Nat.succ_pos 0) LK1.out LK2.out ?base2 _ (by rfl) ?_
               (case own2 => first | exact (H2.out.alloc (.cells #[.int .i64 y.f1] 2)).drew | exact ((H2.out.alloc (.cells #[.int .i64 y.f1] 2)).alloc (.cells #[.int .i64 x.f1] 2)).drew | exact ((H2.out.alloc (.cells #[.int .i64 x.f1] 2)).alloc (.cells #[.int .i64 y.f1] 2)).drew | exact (World.ownsRow.kept (H2.out.alloc (.cells #[.int .i64 x.f1] 2)).drew growa HNE2.out).alloc (.cells #[.int .i64 y.f1] 2) | exact World.ownsRow.kept ((H2.out.alloc (.cells #[.int .i64 y.f1] 2)).alloc (.cells #[.int .i64 x.f1] 2)).drew growa HNE2.out | exact World.ownsRow.kept ((H2.out.alloc (.cells #[.int .i64 x.f1] 2)).alloc (.cells #[.int .i64 y.f1] 2)).drew growa HNE2.out)
               (case news2 => first | exact World.news_of_block (cs := #[.int .i64 y.f1]) (t := 2) (fr := (0, 0)) (heap_alloc_new W0 (.cells #[.int .i64 y.f1] 2)) | exact World.news_of_block (cs := #[.int .i64 y.f1]) (t := 2) (fr := (0, 0)) (two_new W0 (.cells #[.int .i64 y.f1] 2) (.cells #[.int .i64 x.f1] 2)).1 | exact World.news_of_block (cs := #[.int .i64 y.f1]) (t := 2) (fr := (0, 0)) (two_new W0 (.cells #[.int .i64 x.f1] 2) (.cells #[.int .i64 y.f1] 2)).2 | exact World.news_of_block (cs := #[.int .i64 y.f1]) (t := 2) (fr := (0, 0)) (heap_alloc_new wa (.cells #[.int .i64 y.f1] 2)) | exact fun j u hu => growa.cell (World.news_of_block (cs := #[.int .i64 y.f1]) (t := 2) (fr := (0, 0)) (two_new W0 (.cells #[.int .i64 y.f1] 2) (.cells #[.int .i64 x.f1] 2)).1 j u hu) (by rw [add_plain]; exact (Ne.symm NA0.out)) | exact fun j u hu => growa.cell (World.news_of_block (cs := #[.int .i64 y.f1]) (t := 2) (fr := (0, 0)) (two_new W0 (.cells #[.int .i64 x.f1] 2) (.cells #[.int .i64 y.f1] 2)).2 j u hu) (by rw [add_plain]; exact (Ne.symm NA1.out)))
               (case base2 => first | (simp; omega) | (have := growa.size; simp at this; simp; omega) | (have := growa.size; simp at this; omega))
               intro gb cb_ wb ownb growb atb ltb))
          all_goals
            obtain ⟨q1, q2, q3⟩ := two_rows H1.out H2.out HNE1.out hge (by repeat (first | exact Below.refl _ _ | apply below_drew1 | apply below_alloc)) growa ata lta owna (by repeat (first | exact Below.refl _ _ | apply below_drew1 | apply below_alloc)) growb atb ownb
            go_wp2_with fail
            go_roundg (b.length - (kk + 1))
            case measure => omega
            case rel => exact ⟨kk + 1, by omega, by omega, by go_num, ⟨HI.out.trans (HBW.out.mono HI.out.size |>.trans q3)⟩, ⟨by rw [Row, take_next _ _ _ _ E0.out]; simpa using q1⟩, ⟨by rw [Row, take_next _ _ _ _ E2.out]; simpa using ownb⟩, ⟨.inr (by simp [Value.ownBlock, q2])⟩⟩
        · have y1 : ¬ (kk : Int) < (b.length : Int) := by omega
          have : kk = b.length := by omega
          subst this
          have r1' := r1.out
          have r2' := r2.out
          rw [Row, List.take_of_length_le (by simp)] at r1'
          rw [Row, List.take_of_length_le (by simp [HL2.out])] at r2'
          obtain ⟨At, ct, e1, q1⟩ := row_reads r1' (by simp)
          obtain ⟨Aw, cw, e2, q2⟩ := row_reads r2' (by simp [HL2.out])
          have R1 := Aside0.mk q1
          have R2 := Aside0.mk q2
          rw [e1, e2]
          clear r1' r2' q1 q2 r1 r2 ap e1 e2
          obtain ⟨adm, m', Am, cm, Af, cf, hA2, E1, w0, w1, w2, m1, m2, m3, m4⟩ := at53 (Kd.C_below HS.out.r2 (below_step HB.out HI.out)) mode hmode
          cases HM.out.symm.trans E1.out
          cases hA2
          have x4 := (HI.out.cell (World.block_lt_of_cell? wo _ x2)).trans x2
          clear x2 x3
          go_wp2_with fail
          refine (next_calls2 m _ _ _ _ _ _ _ _ (b.map (·.f1)) (load.map (·.f1)) _ _ _ m2.out m4.out R1.out R2.out (by simp) (by simp) hl HL1.out HL2.out hf).mono ?_
          rintro e W2 ⟨g, rfl, hg, ho, hb⟩
          have K0 := pw_blk_below (below_step HI.out hb) k0.out
          obtain ⟨gz, k1', k2'⟩ := k1.out
          have K1 := pw_blk_below (below_step HI.out hb) k1'
          have K2 := pw_blk_below (below_step HI.out hb) k2'
          have HB2 := Aside0.mk (below_step HB.out (below_step HI.out hb))
          have HO := Aside0.mk ho
          have c9 := blk_cell K1 1
          simp at c9
          have z9 := blk_frozen K1 1
          have hGl : G < wo.heap.size := blk_lt k1'
          have hgG : g ≠ G := by have := HI.out.size; omega
          have hzG : gz ≠ G := blk_ne K2 K1 (by decide)
          have KK0 := Aside0.mk K0
          have KK1 := Aside0.mk K1
          have KK2 := Aside0.mk K2
          clear hb ho K0 K1 K2 k1' k2'
          go_wp2_with fail
          go_roundg 0
          case measure => omega
          case rel =>
            refine ⟨2, by omega, by omega, by go_num, ⟨HB2.out.setCell (p := ⟨G, 1, none⟩) (by simp; omega) _⟩, ⟨blk_far KK0.out (by simp; omega) _⟩, ⟨⟨gz, g, ?_, blk_far KK2.out (by simp; omega) _, blk_far HO.out (by simp; omega) _⟩⟩⟩
            exact blk_set KK1.out 1 _
    · obtain ⟨ga, gb, k1', k2', k3'⟩ := k1.out
      have hmk := fun W_ => make_spans b.length (by omega) W_
      go_wp2_with fail
      have hlo : (nextL m (b.map (·.f0)) (load.map (·.f0))).length = b.length := nextL_len _ _ _ _ (by simp) HL1.out (by simp [HL2.out])
      have hhi : (nextL m (b.map (·.f1)) (load.map (·.f1))).length = b.length := nextL_len _ _ _ _ (by simp) HL1.out (by simp [HL2.out])
      have hys : (advL m load b).length = b.length := zipSp_len _ _ _ hlo hhi
      obtain ⟨W, hW⟩ : ∃ W, W = wr.alloc (.cells (spans (List.replicate b.length ⟨0, 0⟩)).toArray 48) := ⟨_, rfl⟩
      have hbW : Below wr.heap.size wr W := by rw [hW]; exact below_alloc (Below.refl _ _) _
      have KR := Aside0.mk (show W.heap[wr.heap.size]? = some (.cells (spans (fillSp (advL m load b) b.length 0)).toArray 48 (0, 0)) by rw [hW, fillSp_none]; exact heap_alloc_new _ _)
      have K1 := Aside0.mk (pw_blk_below hbW k1')
      have K2 := Aside0.mk (pw_blk_below hbW k2')
      have K3 := Aside0.mk (pw_blk_below hbW k3')
      have HB2 := Aside0.mk (below_step HB.out hbW)
      have hGR : G < wr.heap.size := blk_lt k1'
      have haR : ga < wr.heap.size := blk_lt k2'
      have hbR : gb < wr.heap.size := blk_lt k3'
      rw [← hW]
      have HLO := Aside0.mk hlo
      have HHI := Aside0.mk hhi
      have HYS := Aside0.mk hys
      clear hW hbW k1' k2' k3' k1 k0 hmk hlo hhi hys
      have hR0 : w.heap.size < wr.heap.size := by omega
      generalize wr.heap.size = R at KR hGR haR hbR hR0 ⊢
      generalize hlo : nextL m (b.map (·.f0)) (load.map (·.f0)) = lo at K2 HLO
      generalize hhi : nextL m (b.map (·.f1)) (load.map (·.f1)) = hi at K3 HHI
      have HYS' := Aside0.mk (show advL m load b = zipSp lo hi by rw [← hlo, ← hhi]; rfl)
      clear hlo hhi
      rw [HYS'.out] at KR HYS
      go_loopg [75] b.length (fun gg s75 wi => ∃ kk : Nat, kk ≤ b.length ∧ b.length - kk ≤ gg ∧ s75 = .int .i64 kk ∧ Aside0 (Below w.heap.size w wi) ∧ Aside0 (wi.heap[G]? = some (.cells #[.slice (some ⟨ga, 0, none⟩) b.length b.length, .slice (some ⟨gb, 0, none⟩) b.length b.length] 107 (0, 0))) ∧ Aside0 (OwnInts wi ga lo) ∧ Aside0 (OwnInts wi gb hi) ∧ Aside0 (wi.heap[R]? = some (.cells (spans (fillSp (zipSp lo hi) b.length kk)).toArray 48 (0, 0))))
      case atStart => exact ⟨0, by omega, by omega, rfl, HB2, K1, K2, K3, KR⟩
      case round =>
        clear HB2 K1 K2 K3 KR HB
        obtain ⟨kk, hkk, hgk, rfl, HB, K1, K2, K3, KR⟩ := hrel
        by_cases hlt : kk < b.length
        · have y1 : (kk : Int) < (b.length : Int) := by omega
          have c0 := blk_cell K1.out 0
          have c1 := blk_cell K1.out 1
          simp at c0 c1
          have c2 := blk_cell K2.out kk
          have c3 := blk_cell K3.out kk
          rw [ints_at _ _ (by rw [HLO.out]; exact hlt)] at c2
          rw [ints_at _ _ (by rw [HHI.out]; exact hlt)] at c3
          have c4 := blk_cell KR.out (kk * 2)
          have c5 := blk_cell KR.out (kk * 2 + 1)
          rw [List.getElem?_toArray, (spans_at _ _ _ (fillSp_at _ _ _ HYS.out hlt)).1] at c4
          rw [List.getElem?_toArray, (spans_at _ _ _ (fillSp_at _ _ _ HYS.out hlt)).2] at c5
          have z4 := blk_frozen KR.out (kk * 2)
          have z5 := blk_frozen KR.out (kk * 2 + 1)
          go_wp2_with fail
          go_still_tail 14, (by kernel_rfl)
          change wpList _ _ _ _ _ wr.drew
          go_wp2_with fail
          go_roundg (b.length - (kk + 1))
          case measure => omega
          case rel =>
            refine ⟨kk + 1, by omega, by omega, by go_num, ⟨below_drew1 ((HB.out.setCell (p := ⟨R, kk * 2, none⟩) (by simp; omega) _).setCell (p := ⟨R, kk * 2 + 1, none⟩) (by simp; omega) _)⟩,
              ⟨blk_far (blk_far K1.out (by simp; omega) _) (by simp; omega) _⟩, ⟨blk_far (blk_far K2.out (by simp; omega) _) (by simp; omega) _⟩, ⟨blk_far (blk_far K3.out (by simp; omega) _) (by simp; omega) _⟩, ⟨?_⟩⟩
            rw [← fillSp_set _ _ _ _ HYS.out (zipSp_at lo hi kk (by rw [HLO.out]; exact hlt) (by rw [HHI.out]; exact hlt)), ← spans_set, ← List.setIfInBounds_toArray, ← List.setIfInBounds_toArray, List.getD_eq_getElem?_getD, List.getD_eq_getElem?_getD]
            exact blk_set (blk_set KR.out (kk * 2) _) (kk * 2 + 1) _
        · have y1 : ¬ (kk : Int) < (b.length : Int) := by omega
          have : kk = b.length := by omega
          subst this
          go_wp2
          go_ret
          refine ⟨R, rfl, by omega, ?_, HB.out⟩
          rw [HYS'.out]
          rw [fillSp_all _ _ HYS.out] at KR
          exact KR.out
end Go.Proofs.Ytppdckjgdamlnaa

namespace Go.Proofs.Ytppdckjgdamlnaa
open Go.RowKit Go.Proofs.YtppdckjgdamlnaaW.PrintWords Go.Proofs.YtppdckjgdamlnaaW.PrintLast Go.Proofs.YtppdckjgdamlnaaW.PrintMore Q Go.Shelf

def badMode (s : Sys) (k : Int) : Bool := decide (k < 0) || decide ((s.modes.length : Int) ≤ k)
/-- ErrForm is 8, ErrRange 3. -/
def planE (s : Sys) (p : List Int) : Int := if checkB s = false then 2 else if p.length ≠ s.loads.length then 8 else if p.any (badMode s) then 3 else 0

theorem badMode_calls (s : Sys) (A2 : Option Addr) (c2 : Nat) (Bs : Nat) (k : Int) (w : World) (h : w.cell? ⟨Bs, 2, none⟩ = some (.slice A2 s.modes.length c2)) :
    Calls Try.prog 64 #[.int .i64 k, .pointer (some ⟨Bs, 0, none⟩)] w fun e w' => e = .returned (.bool (badMode s k)) ∧ Below w.heap.size w w' := by
  by_cases h1 : k < 0
  all_goals
    go_enter Try.func64, Try.ntmps64
    go_wp2
    go_ret
    exact ⟨ret_b (by simp_all [badMode] <;> omega), Below.refl _ _⟩

theorem checkPlan_calls (s : Sys) (A0 A1 A2 A3 : Option Addr) (c0 c1 c2 c3 : Nat) (Ap : Option Addr) (cp : Nat) (p : List Int) (w : World) (hs : SysAt w s A0 A1 A2 A3 c0 c1 c2 c3) (hp : Kd.C (Kd.int .i64) w Ap p.length p) :
    Calls Try.prog 44 #[sysV s A0 A1 A2 A3 c0 c1 c2 c3, .slice Ap p.length cp] w fun e w' => e = .returned (.int .i64 (planE s p)) ∧ Below w.heap.size w w' := by
  have HS := Aside0.mk hs
  have hc := fun o => Aside0.mk (Check_calls s A0 A1 A2 A3 c0 c1 c2 c3 (w.alloc o) (hs.below (below_alloc (Below.refl _ _) o)))
  clear hs
  simp only [sysV] at hc ⊢
  cases hk : checkB s with
  | false =>
    have e : checkE s = 2 := by simp [checkE, hk]
    have HK := Aside0.mk hk
    rw [e] at hc
    clear e hk
    go_enter Try.func44, Try.ntmps44
    go_wp2_with (go_at_call 31; refine (hc _).out.mono ?_; rintro e w' ⟨rfl, hb⟩; have HB := Aside0.mk hb; clear hb)
    go_ret
    exact ⟨ret_i (by rw [planE, if_pos HK.out]), below_step (below_alloc (Below.refl _ _) _) HB.out⟩
  | true =>
    have e : checkE s = 0 := by simp [checkE, hk]
    have HK := Aside0.mk hk
    rw [e] at hc
    clear e hk
    by_cases hl : p.length = s.loads.length
    · have hl' : ((p.length : Int) != (s.loads.length : Int)) = false := by rw [bne_eq_false_iff_eq]; omega
      have HL := Aside0.mk hl
      clear hl
      go_enter Try.func44, Try.ntmps44
      go_wp2_with (go_at_call 31; refine (hc _).out.mono ?_; rintro e w1 ⟨rfl, hb⟩; have HB := Aside0.mk hb; have k0 := Aside0.mk (pw_blk_below hb (heap_alloc_new w _)); have d3 := blk_cell k0.out 3; simp at d3; clear hb)
      have HC := Aside0.mk (containsI_calls 64 #[.pointer (some ⟨w.heap.size, 0, none⟩)] (enters_of Try.func64 (by kernel_rfl) rfl) (badMode s) Ap cp p w1 (Kd.C_below hp (below_step (below_alloc (Below.refl _ _) _) HB.out)) (fun x _ v W hb hv => by cases hv; exact badMode_calls s A2 c2 _ x W (by rw [blk_cell (pw_blk_below hb k0.out)]; rfl)))
      refine HC.out.mono ?_
      rintro e w2 ⟨rfl, hb⟩
      have HB2 := Aside0.mk hb
      cases hb' : p.any (badMode s) with
      | false =>
        have HB' := Aside0.mk hb'
        clear hb hb' d3 HC
        go_wp2_with fail
        go_ret
        exact ⟨ret_i (by rw [planE, if_neg (by rw [HK.out]; simp), if_neg (by rw [HL.out]; simp), if_neg (by rw [HB'.out]; simp)]), below_step (below_step (below_alloc (Below.refl _ _) _) HB.out) HB2.out⟩
      | true =>
        have HB' := Aside0.mk hb'
        clear hb hb' d3 HC
        go_wp2_with fail
        go_ret
        exact ⟨ret_i (by rw [planE, if_neg (by rw [HK.out]; simp), if_neg (by rw [HL.out]; simp), if_pos HB'.out]), below_step (below_step (below_alloc (Below.refl _ _) _) HB.out) HB2.out⟩
    · have hl' : ((p.length : Int) != (s.loads.length : Int)) = true := by rw [bne_iff_ne]; omega
      have HL := Aside0.mk hl
      clear hl
      go_enter Try.func44, Try.ntmps44
      go_wp2_with (go_at_call 31; refine (hc _).out.mono ?_; rintro e w1 ⟨rfl, hb⟩; have HB := Aside0.mk hb; have k0 := Aside0.mk (pw_blk_below hb (heap_alloc_new w _)); have d3 := blk_cell k0.out 3; simp at d3; clear hb)
      go_ret
      exact ⟨ret_i (by rw [planE, if_neg (by rw [HK.out]; simp), if_pos HL.out]), below_step (below_alloc (Below.refl _ _) _) HB.out⟩

/-- What a checked system is. -/
structure Ok (s : Sys) : Prop where
  n1 : 1 ≤ s.lim.length
  n3 : s.lim.length ≤ 3
  m1 : 1 ≤ s.modes.length
  m8 : s.modes.length ≤ 8
  d48 : s.loads.length ≤ 48
  lim : ∀ x ∈ s.lim, -10000 ≤ x.f0 ∧ x.f0 ≤ x.f1 ∧ x.f1 ≤ 10000
  startLen : s.start.length = s.lim.length
  start : ∀ x ∈ s.start, -10000 ≤ x.f0 ∧ x.f0 ≤ x.f1 ∧ x.f1 ≤ 10000
  ins : insideB s.lim s.start = true
  loadsLen : ∀ l ∈ s.loads, l.length = s.lim.length
  loads : ∀ l ∈ s.loads, ∀ x ∈ l, -10000 ≤ x.f0 ∧ x.f0 ≤ x.f1 ∧ x.f1 ≤ 10000
  modes : ∀ m ∈ s.modes, modeOk m s.lim.length = true

theorem insideS_range {x : S48} {l : Int} (h : insideS x ⟨-l, l⟩ = true) : -l ≤ x.f0 ∧ x.f0 ≤ x.f1 ∧ x.f1 ≤ l := by
  simp only [insideS, validS, validSp, Bool.and_eq_true, decide_eq_true_eq, Bool.not_eq_true', decide_eq_false_iff_not] at h
  omega
theorem boxOk_spec {n : Nat} {xs : List S48} (h : boxOk n xs = true) : xs.length = n ∧ ∀ x ∈ xs, -10000 ≤ x.f0 ∧ x.f0 ≤ x.f1 ∧ x.f1 ≤ 10000 := by
  simp only [boxOk, withinB, Bool.and_eq_true, beq_iff_eq, List.all_eq_true] at h
  exact ⟨h.1, fun x hx => insideS_range (h.2 x hx)⟩
theorem Ok.of_check {s : Sys} (h : checkB s = true) : Ok s := by
  simp only [checkB, lensOk, Bool.and_eq_true, decide_eq_true_eq, List.all_eq_true] at h
  obtain ⟨⟨⟨⟨⟨⟨⟨⟨⟨a, b⟩, c⟩, d⟩, e⟩, f⟩, g⟩, i⟩, j⟩, k⟩ := h
  exact ⟨a, b, c, d, e, (boxOk_spec f).2, (boxOk_spec g).1, (boxOk_spec g).2, i, fun l hl => (boxOk_spec (j l hl)).1, fun l hl => (boxOk_spec (j l hl)).2, k⟩

theorem flowsOk_in (n : Nat) : ∀ (fs : List S99) (u : List Bool), flowsOk n fs u = true → flowsIn n fs := by
  intro fs
  induction fs with
  | nil => intro u _ f hf; cases hf
  | cons f fs ih =>
    intro u h
    simp only [flowsOk] at h
    split at h
    · cases h
    · split at h
      · cases h
      · rename_i h1
        split at h
        · cases h
        · rename_i h2
          intro g hg
          rcases List.mem_cons.1 hg with rfl | hg
          · simp only [badAt, Bool.or_eq_true, decide_eq_true_eq, not_or, Bool.not_eq_true] at h1 h2
            omega
          · exact ih _ h g hg
/-- What a valid mode is. -/
structure ModeOk (m : S53) (n : Nat) : Prop where
  c0 : 0 ≤ m.f0
  c1 : m.f0 ≤ 1073741824
  len : m.f1.length = n
  shift : ∀ x ∈ m.f1, -10000 ≤ x ∧ x ≤ 10000
  flows : flowsOk n m.f2 [false, false, false] = true
theorem ModeOk.of_b {m : S53} {n : Nat} (h : modeOk m n = true) : ModeOk m n := by
  simp only [modeOk, Bool.and_eq_true, decide_eq_true_eq, beq_iff_eq, List.all_eq_true] at h
  obtain ⟨⟨⟨⟨a, b⟩, c⟩, d⟩, e⟩ := h
  refine ⟨a, b, c, fun x hx => ?_, e⟩
  have := d x hx
  simp only [heatOk, Bool.not_eq_true', Bool.or_eq_false_iff, decide_eq_false_iff_not] at this
  omega
theorem ModeOk.inn {m : S53} {n : Nat} (h : ModeOk m n) : flowsIn n m.f2 := flowsOk_in n _ _ h.flows
theorem Ok.mode {s : Sys} (h : Ok s) {k : Nat} {m : S53} (hm : s.modes[k]? = some m) : ModeOk m s.lim.length := ModeOk.of_b (h.modes m (List.mem_of_getElem? hm))
theorem Ok.load {s : Sys} (h : Ok s) {k : Nat} {l : List S48} (hl : s.loads[k]? = some l) : l.length = s.lim.length := h.loadsLen l (List.mem_of_getElem? hl)

/-- the modes of a plan -/
def costOf (s : Sys) (k : Int) : Int := (s.modes.getD k.toNat z53).f0
def sumCost (s : Sys) (p : List Int) : Int := (p.map (costOf s)).sum

theorem costOf_bound {s : Sys} (h : Ok s) (k : Int) (hk : badMode s k = false) : 0 ≤ costOf s k ∧ costOf s k ≤ 1073741824 := by
  simp only [badMode, Bool.or_eq_false_iff, decide_eq_false_iff_not] at hk
  have hl : k.toNat < s.modes.length := by omega
  have := h.mode (getD_some (z := z53) hl)
  exact ⟨this.c0, this.c1⟩
theorem sumCost_bound {s : Sys} (h : Ok s) : ∀ p : List Int, (∀ k ∈ p, badMode s k = false) → 0 ≤ sumCost s p ∧ sumCost s p ≤ 1073741824 * p.length := by
  intro p
  induction p with
  | nil => intro _; simp [sumCost]
  | cons k p ih =>
    intro hp
    have h1 := costOf_bound h k (hp k (by simp))
    have h2 := ih (fun x hx => hp x (by simp [hx]))
    simp only [sumCost, List.map_cons, List.sum_cons, List.length_cons] at h2 ⊢
    omega
theorem sumCost_snoc (s : Sys) (p : List Int) (k : Int) : sumCost s (p ++ [k]) = sumCost s p + costOf s k := by simp [sumCost]

theorem take_snoc' {α : Type} (xs : List α) (k : Nat) (x : α) (h : xs[k]? = some x) : xs.take (k + 1) = xs.take k ++ [x] := by
  rw [List.take_add_one, h]; rfl
theorem planE_zero {s : Sys} {p : List Int} (h : planE s p = 0) : Ok s ∧ p.length = s.loads.length ∧ ∀ k ∈ p, badMode s k = false := by
  unfold planE at h
  split at h
  · cases h
  · rename_i h1
    split at h
    · cases h
    · rename_i h2
      split at h
      · cases h
      · rename_i h3
        refine ⟨Ok.of_check (by simpa using h1), by simpa using h2, fun k hk => ?_⟩
        simp only [List.any_eq_true, not_exists, not_and] at h3
        simpa using h3 k hk

set_option maxHeartbeats 1000000 in
theorem Cost_calls (s : Sys) (A0 A1 A2 A3 : Option Addr) (c0 c1 c2 c3 : Nat) (Ap : Option Addr) (cp : Nat) (p : List Int) (w : World) (hs : SysAt w s A0 A1 A2 A3 c0 c1 c2 c3) (hp : Kd.C (Kd.int .i64) w Ap p.length p) :
    Calls Try.prog 18 #[sysV s A0 A1 A2 A3 c0 c1 c2 c3, .slice Ap p.length cp] w fun e w' => e = .returned (.tuple #[.int .i64 (if planE s p = 0 then sumCost s p else 0), .int .i64 (planE s p)]) ∧ Below w.heap.size w w' := by
  have HS := Aside0.mk hs
  have hc := fun o => Aside0.mk (checkPlan_calls s A0 A1 A2 A3 c0 c1 c2 c3 Ap cp p (w.alloc o) (hs.below (below_alloc (Below.refl _ _) o)) (Kd.C_alloc hp o))
  clear hs
  simp only [sysV] at hc ⊢
  by_cases hk : planE s p = 0
  · have HK := Aside0.mk hk
    rw [hk] at hc ⊢
    rw [if_pos rfl]
    clear hk
    go_enter Try.func18, Try.ntmps18
    go_wp2_with (go_at_call 44; refine (hc _).out.mono ?_; rintro e w' ⟨rfl, hb⟩; have HB := Aside0.mk (below_step (below_alloc (Below.refl _ _) _) hb); have k0 := Aside0.mk (pw_blk_below hb (heap_alloc_new w _)); clear hb)
    obtain ⟨ok, hpl, hbad⟩ := planE_zero HK.out
    have OK := Aside0.mk ok
    have HBAD := Aside0.mk hbad
    have hp48 : p.length ≤ 48 := by have := ok.d48; omega
    clear ok hbad hpl hc
    go_loopg [7, 18] p.length (fun gg s7 s18 wr => ∃ kk : Nat, kk ≤ p.length ∧ p.length - kk ≤ gg ∧ s18 = .int .i64 kk ∧ s7 = .int .i64 (sumCost s (p.take kk)) ∧ wr = w')
    case atStart => exact ⟨0, by omega, by omega, rfl, rfl, rfl⟩
    case round =>
      obtain ⟨kk, hkk, hgk, rfl, rfl, rfl⟩ := hrel
      by_cases hlt : kk < p.length
      · have y1 : (kk : Int) < (p.length : Int) := by omega
        obtain ⟨ad, x, rfl, E0, x0⟩ := at_int (Kd.C_below hp HB.out) kk hlt
        have hbx := HBAD.out x (List.mem_of_getElem? E0.out)
        have hbd := costOf_bound OK.out x hbx
        have hpre := sumCost_bound OK.out (p.take kk) (fun y hy => HBAD.out y (List.mem_of_mem_take hy))
        have hsn := sumCost_snoc s (p.take kk) x
        have htl : (p.take kk).length ≤ 48 := by simp; omega
        rw [← take_snoc' p kk x E0.out] at hsn
        simp only [badMode, Bool.or_eq_false_iff, decide_eq_false_iff_not] at hbx
        obtain ⟨b0, b1⟩ := hbx
        obtain ⟨adm, m, A1_, c1_, A2_, c2_, hA2, Em, m0, _, _, _, _, _, _⟩ := at53 (Kd.C_below HS.out.r2 HB.out) x.toNat (by omega)
        cases hA2
        have hco : costOf s x = m.f0 := by simp [costOf, List.getD_eq_getElem?_getD, Em.out]
        rw [hco] at hbd hsn
        have d2 := blk_cell k0.out 2
        simp at d2
        generalize sumCost s (p.take kk) = S0 at hpre hsn ⊢
        have HSN := Aside0.mk hsn
        obtain ⟨p0, p1⟩ := hpre
        obtain ⟨p2, p3⟩ := hbd
        have p4 : S0 ≤ 51539607552 := by omega
        clear hsn hco p1 htl
        go_wp2_with fail
        go_roundg (p.length - (kk + 1))
        case measure => omega
        case rel => exact ⟨kk + 1, by omega, by omega, by go_num, by rw [HSN.out], rfl⟩
      · have y1 : ¬ (kk : Int) < (p.length : Int) := by omega
        have : kk = p.length := by omega
        subst this
        rw [List.take_of_length_le (Nat.le_refl _)]
        go_wp2
        go_ret2
        exact ⟨rfl, HB.out⟩
  · have hk' : (planE s p != 0) = true := by rw [bne_iff_ne]; exact hk
    rw [if_neg hk]
    generalize planE s p = E at hc hk' ⊢
    clear hk
    go_enter Try.func18, Try.ntmps18
    go_wp2_with (go_at_call 44; refine (hc _).out.mono ?_; rintro e w' ⟨rfl, hb⟩; have HB := Aside0.mk hb; clear hb)
    go_ret2
    exact ⟨rfl, below_step (below_alloc (Below.refl _ _) _) HB.out⟩
end Go.Proofs.Ytppdckjgdamlnaa

namespace Go.Proofs.Ytppdckjgdamlnaa
open Go.RowKit Go.Proofs.YtppdckjgdamlnaaW.PrintWords Go.Proofs.YtppdckjgdamlnaaW.PrintLast Go.Proofs.YtppdckjgdamlnaaW.PrintMore Q Go.Shelf

theorem NextBox_ok (s : Sys) (A0 A1 A2 A3 : Option Addr) (c0 c1 c2 c3 : Nat) (slot mode : Nat) (B : Option Addr) (cb : Nat) (b : List S48) (w : World) (hs : SysAt w s A0 A1 A2 A3 c0 c1 c2 c3) (hr : Kd.C k48 w B b.length b)
    (hck : checkB s = true) (load : List S48) (hload : s.loads[slot]? = some load) (m : S53) (hm : s.modes[mode]? = some m) (hl : b.length = s.lim.length) (hw : withinB b 1073741824 = true) :
    Calls Try.prog 29 #[sysV s A0 A1 A2 A3 c0 c1 c2 c3, .int .i64 slot, .int .i64 mode, .slice B b.length cb] w fun e w' =>
      ∃ g, e = .returned (.tuple #[.slice (some ⟨g, 0, none⟩) b.length b.length, .int .i64 0]) ∧ w.heap.size ≤ g ∧ w'.heap[g]? = some (.cells (spans (advL m load b)).toArray 48 (0, 0)) ∧ Below w.heap.size w w' := by
  have ok := Ok.of_check hck
  have hslot := (List.getElem?_eq_some_iff.1 hload).1
  have hmode := (List.getElem?_eq_some_iff.1 hm).1
  have z1 : (slot : Int) < (s.loads.length : Int) := by omega
  have z2 : (mode : Int) < (s.modes.length : Int) := by omega
  have z3 : ((b.length : Int) != (s.lim.length : Int)) = false := by rw [bne_eq_false_iff_eq]; omega
  have hc := fun o => Aside0.mk (Check_calls s A0 A1 A2 A3 c0 c1 c2 c3 (w.alloc o) (hs.below (below_alloc (Below.refl _ _) o)))
  have e0 : checkE s = 0 := by simp [checkE, hck]
  rw [e0] at hc
  have OK := Aside0.mk ok
  have HS := Aside0.mk hs
  have HW := Aside0.mk hw
  have HLOAD := Aside0.mk hload
  have HM := Aside0.mk hm
  have HLL := Aside0.mk hl
  clear ok hs hck e0 hw hload hm hl
  simp only [sysV] at hc ⊢
  go_enter Try.func29, Try.ntmps29
  go_wp2_with (go_at_call 31; refine (hc _).out.mono ?_; rintro e w1 ⟨rfl, hb⟩; have HB := Aside0.mk (below_step (below_alloc (Below.refl _ _) _) hb); have k0 := Aside0.mk (pw_blk_below hb (heap_alloc_new w _)); have d0 := blk_cell k0.out 0; have d1 := blk_cell k0.out 1; have d2 := blk_cell k0.out 2; have d3 := blk_cell k0.out 3; simp at d0 d1 d2 d3; clear hb)
  refine (within_calls B cb b 1073741824 (by omega) (by omega) _ (Kd.C_below hr HB.out)).mono ?_
  rw [HW.out]
  rintro e w2 ⟨rfl, hb⟩
  have HB2 := Aside0.mk hb
  clear d0 d1 d2 d3
  have k0' := pw_blk_below hb k0.out
  have d0 := blk_cell k0' 0
  have d1 := blk_cell k0' 1
  have d2 := blk_cell k0' 2
  have d3 := blk_cell k0' 3
  simp at d0 d1 d2 d3
  clear hb k0'
  go_wp2_with fail
  refine (advance_calls s A0 A1 A2 A3 c0 c1 c2 c3 slot mode B cb b _ (HS.out.below (below_step HB.out HB2.out)) (Kd.C_below hr (below_step HB.out HB2.out)) load HLOAD.out m HM.out (by have := OK.out.n3; have := HLL.out; omega) (by rw [(OK.out.mode HM.out).len, HLL.out]) (by rw [OK.out.load HLOAD.out, HLL.out]) (by rw [HLL.out]; exact (OK.out.mode HM.out).inn)).mono ?_
  rintro e w3 ⟨g, rfl, hg, hcell, hb⟩
  have HC := Aside0.mk hcell
  have HB3 := Aside0.mk hb
  have HG := Aside0.mk hg
  clear hcell hb hg hc d0 d1 d2 d3
  go_wp2
  go_ret2
  exact ⟨g, rfl, Nat.le_trans (below_step HB.out HB2.out).size HG.out, HC.out, below_step (below_step HB.out HB2.out) HB3.out⟩

theorem blk_C48 {W : World} {g : Nat} {xs : List S48} (h : W.heap[g]? = some (.cells (spans xs).toArray 48 (0, 0))) (hl : xs.length ≤ 9223372036854775807) : Kd.C k48 W (some ⟨g, 0, none⟩) xs.length xs := by
  refine ⟨rfl, hl, fun _ => ⟨_, rfl, fun j p hp => ⟨[.int .i64 p.f0, .int .i64 p.f1], rfl, k48_mk _ p, fun i u hu => ?_⟩⟩⟩
  rw [add_plain, blk_cell h, List.getElem?_toArray]
  obtain ⟨h0, h1⟩ := spans_at xs j p hp
  match i, hu with
  | 0, hu => cases hu; exact h0
  | 1, hu => cases hu; exact h1
theorem blk_CI {W : World} {g : Nat} {xs : List Int} (h : OwnInts W g xs) (hl : xs.length ≤ 9223372036854775807) : Kd.C (Kd.int .i64) W (some ⟨g, 0, none⟩) xs.length xs := by
  refine ⟨rfl, hl, fun _ => ⟨_, rfl, fun j p hp => ⟨[.int .i64 p], rfl, rfl, fun i u hu => ?_⟩⟩⟩
  rw [add_plain, blk_cell h]
  have hj := (List.getElem?_eq_some_iff.1 hp).1
  match i, hu with
  | 0, hu =>
    cases hu
    show (ints xs)[j * 1 + 0]? = _
    rw [Nat.mul_one, Nat.add_zero, ints_at xs j hj, List.getD_eq_getElem?_getD, hp]; rfl
theorem old_at {w : World} {g : Nat} {x : Obj} (h : w.heap[g]? = some x) (o : Obj) : (w.alloc o).heap[g]? = some x := pw_blk_below (below_alloc (Below.refl _ _) o) h

theorem new_at {w : World} {g : Nat} {o : Obj} (h : g = w.heap.size) : (w.alloc o).heap[g]? = some o := by subst h; exact heap_alloc_new w o

/-- the system of the chapter's examples -/
def exSys : Sys := { lim := [⟨0, 10⟩], start := [⟨5, 5⟩], modes := [⟨0, [0], []⟩, ⟨3, [-4], []⟩], loads := [[⟨1, 3⟩], [⟨1, 3⟩], [⟨1, 3⟩]] }

theorem exSys_at {W : World} {a b c d e f g : Nat}
    (h0 : W.heap[a]? = some (.cells #[.int .i64 1, .int .i64 3] 48 (0, 0))) (h1 : W.heap[b]? = some (.cells #[.int .i64 0, .int .i64 10] 48 (0, 0))) (h2 : W.heap[c]? = some (.cells #[.int .i64 5, .int .i64 5] 48 (0, 0)))
    (h3 : W.heap[d]? = some (.cells #[.int .i64 0] 2 (0, 0))) (h4 : W.heap[e]? = some (.cells #[.int .i64 (-4)] 2 (0, 0)))
    (h5 : W.heap[f]? = some (.cells #[.int .i64 0, .slice (some ⟨d, 0, none⟩) 1 1, .slice none 0 0, .int .i64 3, .slice (some ⟨e, 0, none⟩) 1 1, .slice none 0 0] 53 (0, 0)))
    (h6 : W.heap[g]? = some (.cells #[.slice (some ⟨a, 0, none⟩) 1 1, .slice (some ⟨a, 0, none⟩) 1 1, .slice (some ⟨a, 0, none⟩) 1 1] 22 (0, 0))) :
    SysAt W exSys (some ⟨b, 0, none⟩) (some ⟨c, 0, none⟩) (some ⟨f, 0, none⟩) (some ⟨g, 0, none⟩) 1 1 2 3 := by
  refine ⟨blk_C48 (xs := [⟨0, 10⟩]) h1 (by decide), blk_C48 (xs := [⟨5, 5⟩]) h2 (by decide), ?_, ?_, by decide, by decide, by decide, by decide⟩
  · refine ⟨rfl, by decide, fun _ => ⟨_, rfl, fun j p hp => ?_⟩⟩
    match j, hp with
    | 0, hp =>
      cases hp
      refine ⟨_, rfl, k53_mk W ⟨0, [0], []⟩ (c1 := 1) (c2 := 0) (by decide) (blk_CI (xs := [0]) h3 (by decide)) (by decide) (Kd.C_nil _ _), fun i u hu => ?_⟩
      rw [add_plain, blk_cell h5]
      match i, hu with
      | 0, hu => exact hu
      | 1, hu => exact hu
      | 2, hu => exact hu
    | 1, hp =>
      cases hp
      refine ⟨_, rfl, k53_mk W ⟨3, [-4], []⟩ (c1 := 1) (c2 := 0) (by decide) (blk_CI (xs := [-4]) h4 (by decide)) (by decide) (Kd.C_nil _ _), fun i u hu => ?_⟩
      rw [add_plain, blk_cell h5]
      match i, hu with
      | 0, hu => exact hu
      | 1, hu => exact hu
      | 2, hu => exact hu
  · refine ⟨rfl, by decide, fun _ => ⟨_, rfl, fun j p hp => ?_⟩⟩
    have hl : p = [⟨1, 3⟩] := by
      match j, hp with
      | 0, hp => cases hp; rfl
      | 1, hp => cases hp; rfl
      | 2, hp => cases hp; rfl
    subst hl
    refine ⟨[.slice (some ⟨a, 0, none⟩) 1 1], rfl, ⟨_, _, rfl, by decide, blk_C48 (xs := [⟨1, 3⟩]) h0 (by decide)⟩, fun i u hu => ?_⟩
    rw [add_plain, blk_cell h6]
    match j, hp, i, hu with
    | 0, _, 0, hu => exact hu
    | 1, _, 0, hu => exact hu
    | 2, _, 0, hu => exact hu

theorem Example_calls (w : World) : Calls Try.prog 30 #[] w fun e w' => ∃ A0 A1 A2 A3, e = .returned (.agg #[.slice A0 1 1, .slice A1 1 1, .slice A2 2 2, .slice A3 3 3]) ∧ SysAt w' exSys A0 A1 A2 A3 1 1 2 3 ∧ Below w.heap.size w w' := by
  go_enter Try.func30, Try.ntmps30
  go_wp2
  refine bodyPost_ret (v := .agg #[.slice (some ⟨w.heap.size + 1 + 1, 0, none⟩) 1 1, .slice (some ⟨w.heap.size + 1 + 1 + 1, 0, none⟩) 1 1, .slice (some ⟨w.heap.size + 1 + 1 + 1 + 1 + 1 + 1, 0, none⟩) 2 2, .slice (some ⟨w.heap.size + 1 + 1 + 1 + 1 + 1 + 1 + 1, 0, none⟩) 3 3]) (by simp [results, Try.results30, go_sem]) rfl ⟨_, _, _, _, rfl, ?_, ?_⟩
  · refine exSys_at (a := w.heap.size + 1) (d := w.heap.size + 1 + 1 + 1 + 1) (e := w.heap.size + 1 + 1 + 1 + 1 + 1) ?_ ?_ ?_ ?_ ?_ ?_ ?_
    all_goals repeat (first | exact new_at (by simp) | refine old_at ?_ _)
  · repeat (first | exact Below.refl _ _ | apply below_alloc)

theorem ex_check : checkB exSys = true := by decide
theorem ex_next : advL ⟨0, [0], []⟩ [⟨1, 3⟩] [⟨5, 5⟩] = [⟨6, 8⟩] := by
  show [(⟨wrap64 (wrap64 (5 + 0) + 1), wrap64 (wrap64 (5 + 0) + 3)⟩ : S48)] = _
  rw [show wrap64 (wrap64 (5 + 0) + 1) = 6 by unfold wrap64; omega, show wrap64 (wrap64 (5 + 0) + 3) = 8 by unfold wrap64; omega]
theorem ex_plan : planE exSys [0, 1, 0] = 0 := by decide
theorem ex_cost : sumCost exSys [0, 1, 0] = 3 := by decide

theorem eqA48 (d : Nat) (w : World) (x0 y0 : Int) (x1 y1 : Int) :
    (Op.equalIn (d + 2) 48 (.agg #[.int .i64 x0, .int .i64 x1]) (.agg #[.int .i64 y0, .int .i64 y1])).run Try.prog w = .ok (x0 == y0 && (x1 == y1)) w := by
  refine eqA_of Try.underlying48 (by kernel_rfl) ?_
  refine eqf_cons (by rfl) (by go_simp; rfl) (by go_simp; rfl) (by go_simp) ?_
  exact eqf_last (by rfl) (by go_simp; rfl) (by go_simp; rfl) (by go_simp)

theorem ex_NextBox (A0 A1 A2 A3 : Option Addr) (B : Option Addr) (w : World) (hs : SysAt w exSys A0 A1 A2 A3 1 1 2 3) (hr : Kd.C k48 w B 1 [⟨5, 5⟩]) :
    Calls Try.prog 29 #[.agg #[.slice A0 1 1, .slice A1 1 1, .slice A2 2 2, .slice A3 3 3], .int .i64 0, .int .i64 0, .slice B 1 1] w fun e w' =>
      ∃ g, e = .returned (.tuple #[.slice (some ⟨g, 0, none⟩) 1 1, .int .i64 0]) ∧ w'.heap[g]? = some (.cells #[.int .i64 6, .int .i64 8] 48 (0, 0)) ∧ Below w.heap.size w w' := by
  have h := NextBox_ok exSys A0 A1 A2 A3 1 1 2 3 0 0 B 1 [⟨5, 5⟩] w hs hr ex_check [⟨1, 3⟩] rfl ⟨0, [0], []⟩ rfl rfl (by decide)
  rw [ex_next] at h
  exact h.mono fun e w' ⟨g, he, _, hc, hb⟩ => ⟨g, he, hc, hb⟩
theorem ex_Cost (A0 A1 A2 A3 : Option Addr) (P : Option Addr) (w : World) (hs : SysAt w exSys A0 A1 A2 A3 1 1 2 3) (hr : Kd.C (Kd.int .i64) w P 3 [0, 1, 0]) :
    Calls Try.prog 18 #[.agg #[.slice A0 1 1, .slice A1 1 1, .slice A2 2 2, .slice A3 3 3], .slice P 3 3] w fun e w' => e = .returned (.tuple #[.int .i64 3, .int .i64 0]) ∧ Below w.heap.size w w' := by
  have h := Cost_calls exSys A0 A1 A2 A3 1 1 2 3 P 3 [0, 1, 0] w hs hr
  rw [ex_plan, if_pos rfl, ex_cost] at h
  exact h
theorem one48 {W : World} {g : Nat} {a b : Int} (h : W.heap[g]? = some (.cells #[.int .i64 a, .int .i64 b] 48 (0, 0))) : Kd.C k48 W (some ⟨g, 0, none⟩) 1 [⟨a, b⟩] := blk_C48 (xs := [⟨a, b⟩]) h (by simp)
theorem three_ints {W : World} {g : Nat} {a b c : Int} (e : Nat) (h : W.heap[g]? = some (.cells #[.int .i64 a, .int .i64 b, .int .i64 c] e (0, 0))) : Kd.C (Kd.int .i64) W (some ⟨g, 0, none⟩) 3 [a, b, c] := by
  refine ⟨rfl, by decide, fun _ => ⟨_, rfl, fun j p hp => ⟨[.int .i64 p], rfl, rfl, fun i u hu => ?_⟩⟩⟩
  rw [add_plain, blk_cell h]
  match j, hp, i, hu with
  | 0, hp, 0, hu => cases hp; exact hu
  | 1, hp, 0, hu => cases hp; exact hu
  | 2, hp, 0, hu => cases hp; exact hu

theorem works_calls (w : World) : Calls Try.prog 11 #[] w fun e w' => e = .returned (.bool true) ∧ Below w.heap.size w w' := by
  go_enter Try.func11, Try.ntmps11
  go_wp2_with fail
  refine (Example_calls _).mono ?_
  rintro e w1 ⟨A0, A1, A2, A3, rfl, hs, hb⟩
  have HB := Aside0.mk hb
  have HS := Aside0.mk hs
  clear hb hs
  go_wp2_with fail
  refine (ex_NextBox A0 A1 A2 A3 _ _ (HS.out.below (below_alloc (Below.refl _ _) _)) (one48 (heap_alloc_new _ _))).mono ?_
  rintro e w2 ⟨g, rfl, hg, hb⟩
  have HG := Aside0.mk hg
  have HB2 := Aside0.mk (below_step HB.out (below_step (below_alloc (Below.refl _ _) _) hb))
  clear HB HS hb hg
  go_wp2_with fail
  refine (Example_calls _).mono ?_
  rintro e w3 ⟨D0, D1, D2, D3, rfl, hs, hb⟩
  have HS := Aside0.mk hs
  have HB3 := Aside0.mk (below_step HB2.out hb)
  have HG3 := Aside0.mk (pw_blk_below hb HG.out)
  clear HB2 hb hs HG
  go_wp2_with fail
  refine (ex_Cost D0 D1 D2 D3 _ _ (HS.out.below (below_alloc (Below.refl _ _) _)) (three_ints _ (heap_alloc_new _ _))).mono ?_
  rintro e w4 ⟨rfl, hb⟩
  have HB4 := Aside0.mk (below_step HB3.out (below_step (below_alloc (Below.refl _ _) _) hb))
  have hg := pw_blk_below (below_step (below_alloc (Below.refl _ _) _) hb) HG3.out
  have d0 := blk_cell hg 0
  have d1 := blk_cell hg 1
  simp at d0 d1
  have he := fun W_ => eqA48 9998 W_ 6 6 8 8
  clear HB3 hb HS HG3 hg
  go_wp2_with fail
  go_ret
  exact ⟨rfl, HB4.out⟩
end Go.Proofs.Ytppdckjgdamlnaa
