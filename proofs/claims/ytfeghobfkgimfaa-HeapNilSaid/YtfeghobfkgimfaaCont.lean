/- slices.ContainsFunc over []int with the heap's own closures: where every element is a node's place it says false. -/
import Derived.Test.YtfeghobfkgimfaaForward
import Derived.Test.YtfeghobfkgimfaaThere
namespace Go.Proofs.Ytfeghobfkgimfaa
open Go.RowKit

/-- A node begins at a place of the room in use. -/
def ThereAt (o1 u1 : Nat) (G : Nat → Bool) (x : Int) : Prop := ∃ k : Nat, x = (k : Int) ∧ k < u1 ∧ G (o1 + k) = true


set_option maxRecDepth 100000 in
set_option maxHeartbeats 400000 in
theorem clo_52 (w : World) (b g k u n o1 gb : Nat) (hk : k < u) (hu : u ≤ n) (hn : n ≤ 1048576) (hp : w.cell? ⟨g, 0, none⟩ = some (.pointer (some ⟨b, 0, none⟩)))
    (h2 : w.cell? ⟨b, 2, none⟩ = some (.int .i64 u)) (h1 : w.cell? ⟨b, 1, none⟩ = some (.slice (some ⟨gb, o1, none⟩) n n)) (hg : w.cell? ⟨gb, o1 + k, none⟩ = some (.bool true)) :
    Calls Try.prog 52 #[.int .i64 k, .pointer (some ⟨g, 0, none⟩)] w fun e w' => e = .returned (.bool false) ∧ w = w' := by
  have ht := there_in b 0 gb o1 n u k true hk hu hn w (by simpa using h2) (by simpa using h1) hg
  have HT := Lib.hid ht; clear ht
  clear h1 h2 hg
  go_enter Try.func52, Try.ntmps52
  go_wp2_with (go_at_call 53; refine HT.out.mono ?_; rintro e w1 ⟨rfl, rfl⟩)
  go_ret
  exact ⟨rfl, rfl⟩

set_option maxRecDepth 100000 in
set_option maxHeartbeats 400000 in
theorem index_52 (w : World) (b g n o1 u1 gb : Nat) (G : Nat → Bool) (A : Option Addr) (cap : Nat) (xs : List Int) (S : Nat → Prop) (hl : xs.length ≤ 1048576) (hA : IntSl S w A cap xs) (hn : n ≤ 1048576) (hu : u1 ≤ n) (hp : w.cell? ⟨g, 0, none⟩ = some (.pointer (some ⟨b, 0, none⟩)))
    (h2 : w.cell? ⟨b, 2, none⟩ = some (.int .i64 u1)) (h1 : w.cell? ⟨b, 1, none⟩ = some (.slice (some ⟨gb, o1, none⟩) n n)) (hg : ∀ k, k < n → w.cell? ⟨gb, o1 + k, none⟩ = some (.bool (G (o1 + k)))) (hx : ∀ x ∈ xs, ThereAt o1 u1 G x) :
    Calls Try.prog 85 #[.slice A xs.length cap, .func (.func 52) #[] #[.pointer (some ⟨g, 0, none⟩)]] w fun e w' => e = .returned (.int .i64 (-1)) ∧ w = w' := by
  have hc : ∀ k : Nat, k < u1 → G (o1 + k) = true → Calls Try.prog 52 #[.int .i64 k, .pointer (some ⟨g, 0, none⟩)] w fun e w' => e = .returned (.bool false) ∧ w = w' :=
    fun k hk hG => clo_52 w b g k u1 n o1 gb hk hu hn hp h2 h1 (by rw [hg k (by omega), hG])
  have HC := Lib.hid hc; have HA := Lib.hid hA; have HX := Lib.hid hx; clear hc hA hx hg h1 h2
  obtain ⟨L, hL⟩ : ∃ L, L = xs.length := ⟨_, rfl⟩
  rw [← hL] at hl ⊢
  have HL := Lib.hid hL; clear hL
  go_enter Try.func85, Try.ntmps85
  go_wp2_with fail
  go_loop [5, 8] (fun _ i => ∃ k : Nat, k ≤ L ∧ i = .int .i64 k) (fun _ i => L - (intOf i).toNat)
  case atStart => exact ⟨0, Nat.zero_le _, rfl⟩
  case round =>
    obtain ⟨k, hk, rfl⟩ := hrel
    by_cases hlt : k < L
    · have hh : ∃ (q : Nat) (z : Nat) (o : Nat), A = some ⟨q, o, none⟩ ∧ w.cell? ⟨q, o + k, none⟩ = some (.int .i64 (z : Int)) ∧ z < u1 ∧ G (o1 + z) = true := by
        have hL := HL.out
        obtain ⟨q, o, hA, _, _, hcell⟩ := HA.out.2 (by omega)
        obtain ⟨z, hz, h1, h2⟩ := HX.out (xs[k]'(by omega)) (List.getElem_mem _)
        exact ⟨q, z, o, hA, by rw [hcell k (by omega), hz], h1, h2⟩
      obtain ⟨q, z, o, rfl, hcell, hz1, hz2⟩ := hh
      have HZ := Lib.hid hz2; clear hz2
      have hi : (k : Int) < (L : Int) := by omega
      go_wp2_with (go_at_call 52; refine (HC.out z hz1 HZ.out).mono ?_; rintro e w1 ⟨rfl, rfl⟩)
      go_round
      case rel => exact ⟨k + 1, by omega, by go_num⟩
      case measure => simp [intOf]; omega
    · go_wp2
      go_ret
      exact ⟨rfl, rfl⟩

set_option maxRecDepth 100000 in
set_option maxHeartbeats 400000 in
theorem contains_52 (w : World) (b g n o1 u1 gb : Nat) (G : Nat → Bool) (A : Option Addr) (cap : Nat) (xs : List Int) (S : Nat → Prop) (hl : xs.length ≤ 1048576) (hA : IntSl S w A cap xs) (hn : n ≤ 1048576) (hu : u1 ≤ n) (hp : w.cell? ⟨g, 0, none⟩ = some (.pointer (some ⟨b, 0, none⟩)))
    (h2 : w.cell? ⟨b, 2, none⟩ = some (.int .i64 u1)) (h1 : w.cell? ⟨b, 1, none⟩ = some (.slice (some ⟨gb, o1, none⟩) n n)) (hg : ∀ k, k < n → w.cell? ⟨gb, o1 + k, none⟩ = some (.bool (G (o1 + k)))) (hx : ∀ x ∈ xs, ThereAt o1 u1 G x) :
    Calls Try.prog 51 #[.slice A xs.length cap, .func (.func 52) #[] #[.pointer (some ⟨g, 0, none⟩)]] w fun e w' => e = .returned (.bool false) ∧ w = w' := by
  have hi := index_52 w b g n o1 u1 gb G A cap xs S hl hA hn hu hp h2 h1 hg hx
  have HI := Lib.hid hi; clear hi hA hx hg
  go_enter Try.func51, Try.ntmps51
  go_wp2_with (go_at_call 85; refine HI.out.mono ?_; rintro e w1 ⟨rfl, rfl⟩)
  go_ret
  exact ⟨rfl, rfl⟩

set_option maxRecDepth 100000 in
set_option maxHeartbeats 400000 in
theorem clo_56 (w : World) (b g k u n o1 gb : Nat) (hk : k < u) (hu : u ≤ n) (hn : n ≤ 1048576) (hp : w.cell? ⟨g, 0, none⟩ = some (.pointer (some ⟨b, 0, none⟩)))
    (h2 : w.cell? ⟨b, 2, none⟩ = some (.int .i64 u)) (h1 : w.cell? ⟨b, 1, none⟩ = some (.slice (some ⟨gb, o1, none⟩) n n)) (hg : w.cell? ⟨gb, o1 + k, none⟩ = some (.bool true)) :
    Calls Try.prog 56 #[.int .i64 k, .pointer (some ⟨g, 0, none⟩)] w fun e w' => e = .returned (.bool false) ∧ w = w' := by
  have ht := there_in b 0 gb o1 n u k true hk hu hn w (by simpa using h2) (by simpa using h1) hg
  have HT := Lib.hid ht; clear ht
  clear h1 h2 hg
  go_enter Try.func56, Try.ntmps56
  go_wp2_with (go_at_call 53; refine HT.out.mono ?_; rintro e w1 ⟨rfl, rfl⟩)
  go_ret
  exact ⟨rfl, rfl⟩

set_option maxRecDepth 100000 in
set_option maxHeartbeats 400000 in
theorem index_56 (w : World) (b g n o1 u1 gb : Nat) (G : Nat → Bool) (A : Option Addr) (cap : Nat) (xs : List Int) (S : Nat → Prop) (hl : xs.length ≤ 1048576) (hA : IntSl S w A cap xs) (hn : n ≤ 1048576) (hu : u1 ≤ n) (hp : w.cell? ⟨g, 0, none⟩ = some (.pointer (some ⟨b, 0, none⟩)))
    (h2 : w.cell? ⟨b, 2, none⟩ = some (.int .i64 u1)) (h1 : w.cell? ⟨b, 1, none⟩ = some (.slice (some ⟨gb, o1, none⟩) n n)) (hg : ∀ k, k < n → w.cell? ⟨gb, o1 + k, none⟩ = some (.bool (G (o1 + k)))) (hx : ∀ x ∈ xs, ThereAt o1 u1 G x) :
    Calls Try.prog 85 #[.slice A xs.length cap, .func (.func 56) #[] #[.pointer (some ⟨g, 0, none⟩)]] w fun e w' => e = .returned (.int .i64 (-1)) ∧ w = w' := by
  have hc : ∀ k : Nat, k < u1 → G (o1 + k) = true → Calls Try.prog 56 #[.int .i64 k, .pointer (some ⟨g, 0, none⟩)] w fun e w' => e = .returned (.bool false) ∧ w = w' :=
    fun k hk hG => clo_56 w b g k u1 n o1 gb hk hu hn hp h2 h1 (by rw [hg k (by omega), hG])
  have HC := Lib.hid hc; have HA := Lib.hid hA; have HX := Lib.hid hx; clear hc hA hx hg h1 h2
  obtain ⟨L, hL⟩ : ∃ L, L = xs.length := ⟨_, rfl⟩
  rw [← hL] at hl ⊢
  have HL := Lib.hid hL; clear hL
  go_enter Try.func85, Try.ntmps85
  go_wp2_with fail
  go_loop [5, 8] (fun _ i => ∃ k : Nat, k ≤ L ∧ i = .int .i64 k) (fun _ i => L - (intOf i).toNat)
  case atStart => exact ⟨0, Nat.zero_le _, rfl⟩
  case round =>
    obtain ⟨k, hk, rfl⟩ := hrel
    by_cases hlt : k < L
    · have hh : ∃ (q : Nat) (z : Nat) (o : Nat), A = some ⟨q, o, none⟩ ∧ w.cell? ⟨q, o + k, none⟩ = some (.int .i64 (z : Int)) ∧ z < u1 ∧ G (o1 + z) = true := by
        have hL := HL.out
        obtain ⟨q, o, hA, _, _, hcell⟩ := HA.out.2 (by omega)
        obtain ⟨z, hz, h1, h2⟩ := HX.out (xs[k]'(by omega)) (List.getElem_mem _)
        exact ⟨q, z, o, hA, by rw [hcell k (by omega), hz], h1, h2⟩
      obtain ⟨q, z, o, rfl, hcell, hz1, hz2⟩ := hh
      have HZ := Lib.hid hz2; clear hz2
      have hi : (k : Int) < (L : Int) := by omega
      go_wp2_with (go_at_call 56; refine (HC.out z hz1 HZ.out).mono ?_; rintro e w1 ⟨rfl, rfl⟩)
      go_round
      case rel => exact ⟨k + 1, by omega, by go_num⟩
      case measure => simp [intOf]; omega
    · go_wp2
      go_ret
      exact ⟨rfl, rfl⟩

set_option maxRecDepth 100000 in
set_option maxHeartbeats 400000 in
theorem contains_56 (w : World) (b g n o1 u1 gb : Nat) (G : Nat → Bool) (A : Option Addr) (cap : Nat) (xs : List Int) (S : Nat → Prop) (hl : xs.length ≤ 1048576) (hA : IntSl S w A cap xs) (hn : n ≤ 1048576) (hu : u1 ≤ n) (hp : w.cell? ⟨g, 0, none⟩ = some (.pointer (some ⟨b, 0, none⟩)))
    (h2 : w.cell? ⟨b, 2, none⟩ = some (.int .i64 u1)) (h1 : w.cell? ⟨b, 1, none⟩ = some (.slice (some ⟨gb, o1, none⟩) n n)) (hg : ∀ k, k < n → w.cell? ⟨gb, o1 + k, none⟩ = some (.bool (G (o1 + k)))) (hx : ∀ x ∈ xs, ThereAt o1 u1 G x) :
    Calls Try.prog 51 #[.slice A xs.length cap, .func (.func 56) #[] #[.pointer (some ⟨g, 0, none⟩)]] w fun e w' => e = .returned (.bool false) ∧ w = w' := by
  have hi := index_56 w b g n o1 u1 gb G A cap xs S hl hA hn hu hp h2 h1 hg hx
  have HI := Lib.hid hi; clear hi hA hx hg
  go_enter Try.func51, Try.ntmps51
  go_wp2_with (go_at_call 85; refine HI.out.mono ?_; rintro e w1 ⟨rfl, rfl⟩)
  go_ret
  exact ⟨rfl, rfl⟩
end Go.Proofs.Ytfeghobfkgimfaa
