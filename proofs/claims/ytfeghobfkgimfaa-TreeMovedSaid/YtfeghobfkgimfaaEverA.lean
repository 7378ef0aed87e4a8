/- every, at each type: is something so of all of a list? The function that says what is so may have caught variables. -/
import Derived.Test.YtfeghobfkgimfaaTreeE
import Derived.Shelf.Abstract
namespace Go.Proofs.Ytfeghobfkgimfaa
set_option linter.unusedSimpArgs false
set_option linter.unusedVariables false
open Go.RowKit Go.Shelf

/-- IndexFunc's answer. -/
def IxV (r : Bool) (w : World) (e : Ending) (w' : World) : Prop := ∃ z : Int, e = .returned (.int .i64 z) ∧ ((0 ≤ z ∧ r = false) ∨ (z = -1 ∧ r = true)) ∧ Below w.heap.size w w'
theorem enters_any {k : FuncId} {fn : Func} (h : Try.prog.funcs[k]? = some fn) (hn : (fn.name == "runtime.NumGoroutine") = false) (hb : fn.body.isSome = true) : Enters Try.prog k := by
  obtain ⟨c, hc⟩ := Option.isSome_iff_exists.1 hb
  exact enters_of h hn hc
theorem allB_all {n : Nat} {R : Nat → Bool} (h : ∀ i, i < n → R i = true) : allB n R = true := allB_true.2 h

set_option maxRecDepth 100000 in
set_option maxHeartbeats 4000000 in
theorem ev1_Pat (C : List Value) (hC : Ok 5 C) (k : FuncId) (env : Array Value) (b : Nat) (r : Bool) (w : World) (hcf : Enters Try.prog k) (hb : w.cell? ⟨b, 0, none⟩ = some (.func (.func k) #[] env))
    (hcall : ∀ W, Below w.heap.size w W → Calls Try.prog k (#[(.agg C.toArray)] ++ env) W (RightV r W)) : Calls Try.prog 120 #[(.agg C.toArray), .pointer (some ⟨b, 0, none⟩)] w (RightV (!r) w) := by
  have IE := Lib.hid (show (Try.prog.info? 128).map (·.size) = some C.length from by rw [hC.1]; kernel_rfl)
  have RR := Lib.hid (range_new w 128 C)
  clear hC
  have hb2 : ∀ o, (w.alloc o).cell? ⟨b, 0, none⟩ = some (.func (.func k) #[] env) := fun o => ((bl1 w o).cell (p := ⟨b, 0, none⟩) (cell_lt hb)).trans hb
  have HC := Lib.hid hcall
  clear hcall
  have hcf2 : ∀ args W, Sem.run Try.prog (callFunc k args) W = .ok (.enter k args) W := hcf
  clear hcf
  go_enter Try.func120, Try.ntmps120
  go_wp2_with (((with_reducible refine at_ld 5 ?_); refine wpList_load_mid rfl 128 (.tmp 2) rfl w.heap.size 0 rfl C _ RR.out Try.underlying128 rfl IE.out ?_))
  refine (HC.out _ (bl1 w _)).mono ?_
  rintro e w2 ⟨rfl, hb2'⟩
  have HB2 : Hid (Below w.heap.size w w2) := Lib.hid (bl_tr (bl1 w _) hb2')
  clear hb2' hb2
  go_wp2_with fail
  go_ret
  exact ⟨rfl, HB2.out⟩
set_option maxRecDepth 100000 in
set_option maxHeartbeats 4000000 in
theorem ix_Pat (C : Nat → List Value) (A : Option Addr) (n c : Nat) (R : Nat → Bool) (b : Nat) (w : World) (hn : n ≤ maxLen) (hA : SlAt (mem w) 5 A n C) (hok : ∀ i, i < n → Ok 5 (C i)) 
    (hcall : ∀ i, i < n → ∀ W, Below w.heap.size w W → Calls Try.prog 120 #[(.agg (C i).toArray), .pointer (some ⟨b, 0, none⟩)] W (RightV (!R i) W)) :
    Calls Try.prog 134 #[.slice A n c, .func (.func 120) #[] #[.pointer (some ⟨b, 0, none⟩)]] w (IxV (allB n R) w) := by
  unfold maxLen at hn
  have HA := Lib.hid hA; have HC := Lib.hid hcall; have HOK := Lib.hid hok
  clear hA hcall hok
  go_enter Try.func134, Try.ntmps134
  go_wp2_with fail
  go_loopg [8] n (fun gk i wr => ∃ j : Nat, j ≤ n ∧ gk = n - j ∧ i = .int .i64 j ∧ Hid (∀ k, k < j → R k = true) ∧ Hid (Below w.heap.size w wr))
  case atStart => exact ⟨0, Nat.zero_le _, rfl, rfl, Lib.hid (fun k hk => absurd hk (by omega)), Lib.hid (Below.refl _ _)⟩
  case round =>
    obtain ⟨j, hj, rfl, rfl, HALL, HBR⟩ := hrel
    by_cases hlt : j < n
    · obtain ⟨g, o, rfl, hc1⟩ := HA.out (by omega)
      have r1 := range_at HBR.out hc1 hlt (HOK.out j hlt).1
      have IE := Lib.hid (show (Try.prog.info? 128).map (·.size) = some (C j).length from by rw [(HOK.out j hlt).1]; kernel_rfl)
      have RR := Lib.hid r1
      clear r1 hc1
      have hj1 : (j : Int) < (n : Int) := by omega
      have hj0 : (0 : Int) ≤ (j : Int) := by omega
      go_wp2_with (((with_reducible refine at_ld 15 ?_); refine wpList_load_mid rfl 128 (.tmp 14) rfl g (o + j * 5) rfl (C j) _ RR.out Try.underlying128 rfl IE.out ?_))
      refine (HC.out j hlt _ HBR.out).mono ?_
      rintro e w2 ⟨rfl, hb2⟩
      have HB2 : Hid (Below w.heap.size w w2) := Lib.hid (bl_tr HBR.out hb2)
      clear hb2
      cases hq : R j with
      | false =>
        go_wp2_with fail
        go_ret
        exact ⟨_, rfl, .inl ⟨by omega, allB_false hlt hq⟩, HB2.out⟩
      | true =>
        go_wp2_with fail
        go_roundg (n - (j + 1))
        case measure => omega
        case rel =>
          refine ⟨j + 1, by omega, rfl, by go_num, Lib.hid (fun k hk => ?_), HB2⟩
          by_cases h : k = j
          · subst h; exact hq
          · exact HALL.out k (by omega)
    · obtain rfl : j = n := by omega
      go_wp2_with fail
      go_ret
      exact ⟨_, rfl, .inr ⟨rfl, allB_all HALL.out⟩, HBR.out⟩
set_option maxRecDepth 100000 in
set_option maxHeartbeats 4000000 in
theorem cont_Pat (C : Nat → List Value) (A : Option Addr) (n c : Nat) (R : Nat → Bool) (b : Nat) (w : World) (hn : n ≤ maxLen) (hA : SlAt (mem w) 5 A n C) (hok : ∀ i, i < n → Ok 5 (C i)) 
    (hcall : ∀ i, i < n → ∀ W, Below w.heap.size w W → Calls Try.prog 120 #[(.agg (C i).toArray), .pointer (some ⟨b, 0, none⟩)] W (RightV (!R i) W)) :
    Calls Try.prog 119 #[.slice A n c, .func (.func 120) #[] #[.pointer (some ⟨b, 0, none⟩)]] w (RightV (!allB n R) w) := by
  have HX := Lib.hid (ix_Pat C A n c R b w hn hA hok hcall)
  clear hA hcall hok hn
  go_enter Try.func119, Try.ntmps119
  go_wp2_with fail
  refine HX.out.mono ?_
  rintro e w2 ⟨z, rfl, hz, hb⟩
  rcases hz with ⟨h0, hr⟩ | ⟨rfl, hr⟩
  · rw [hr]
    go_wp2_with fail
    go_ret
    exact ⟨ret_b (by simp [hr]), hb⟩
  · rw [hr]
    go_wp2_with fail
    go_ret
    exact ⟨ret_b (by simp [hr]), hb⟩
set_option maxRecDepth 100000 in
set_option maxHeartbeats 4000000 in
theorem every_Pat (C : Nat → List Value) (A : Option Addr) (n c : Nat) (R : Nat → Bool) (k : FuncId) (env : Array Value) (w : World) (hcf : Enters Try.prog k) (hn : n ≤ maxLen) (hA : SlAt (mem w) 5 A n C) (hok : ∀ i, i < n → Ok 5 (C i)) 
    (hcall : ∀ i, i < n → ∀ W, Below w.heap.size w W → Calls Try.prog k (#[(.agg (C i).toArray)] ++ env) W (RightV (R i) W)) :
    Calls Try.prog 98 #[.slice A n c, .func (.func k) #[] env] w (RightV (allB n R) w) := by
  have hx := fun (W : World) (hW : Below w.heap.size w W) (hb : W.cell? ⟨w.heap.size, 0, none⟩ = some (.func (.func k) #[] env)) =>
    cont_Pat C A n c R w.heap.size W hn (hA.mono (mem_below hW) (fun i hi => (hok i hi).1)) hok (fun i hi W2 hW2 => ev1_Pat (C i) (hok i hi) k env w.heap.size (R i) W2 hcf ((hW2.cell (p := ⟨w.heap.size, 0, none⟩) (cell_lt hb)).trans hb) (fun W3 hW3 => hcall i hi W3 (bl_tr (bl_tr hW hW2) hW3)))
  have HX := Lib.hid hx
  clear hx hcall hA hok
  go_enter Try.func98, Try.ntmps98
  go_wp2_with fail
  refine (HX.out _ (bl1 w _) ?_).mono ?_
  · exact (cell_of_row _ _ 0 _ _ _ (heap_alloc_new w _)).trans rfl
  rintro e w2 ⟨rfl, hb⟩
  have HB := Lib.hid (bl_tr (bl1 w _) hb)
  go_wp2_with fail
  go_ret
  exact ⟨ret_b (by simp), HB.out⟩

set_option maxRecDepth 100000 in
set_option maxHeartbeats 4000000 in
theorem ev1_Expr (C : List Value) (hC : Ok 8 C) (k : FuncId) (env : Array Value) (b : Nat) (r : Bool) (w : World) (hcf : Enters Try.prog k) (hb : w.cell? ⟨b, 0, none⟩ = some (.func (.func k) #[] env))
    (hcall : ∀ W, Below w.heap.size w W → Calls Try.prog k (#[(.agg C.toArray)] ++ env) W (RightV r W)) : Calls Try.prog 126 #[(.agg C.toArray), .pointer (some ⟨b, 0, none⟩)] w (RightV (!r) w) := by
  have IE := Lib.hid (show (Try.prog.info? 93).map (·.size) = some C.length from by rw [hC.1]; kernel_rfl)
  have RR := Lib.hid (range_new w 93 C)
  clear hC
  have hb2 : ∀ o, (w.alloc o).cell? ⟨b, 0, none⟩ = some (.func (.func k) #[] env) := fun o => ((bl1 w o).cell (p := ⟨b, 0, none⟩) (cell_lt hb)).trans hb
  have HC := Lib.hid hcall
  clear hcall
  have hcf2 : ∀ args W, Sem.run Try.prog (callFunc k args) W = .ok (.enter k args) W := hcf
  clear hcf
  go_enter Try.func126, Try.ntmps126
  go_wp2_with (((with_reducible refine at_ld 5 ?_); refine wpList_load_mid rfl 93 (.tmp 2) rfl w.heap.size 0 rfl C _ RR.out Try.underlying93 rfl IE.out ?_))
  refine (HC.out _ (bl1 w _)).mono ?_
  rintro e w2 ⟨rfl, hb2'⟩
  have HB2 : Hid (Below w.heap.size w w2) := Lib.hid (bl_tr (bl1 w _) hb2')
  clear hb2' hb2
  go_wp2_with fail
  go_ret
  exact ⟨rfl, HB2.out⟩
set_option maxRecDepth 100000 in
set_option maxHeartbeats 4000000 in
theorem ix_Expr (C : Nat → List Value) (A : Option Addr) (n c : Nat) (R : Nat → Bool) (b : Nat) (w : World) (hn : n ≤ maxLen) (hA : SlAt (mem w) 8 A n C) (hok : ∀ i, i < n → Ok 8 (C i)) 
    (hcall : ∀ i, i < n → ∀ W, Below w.heap.size w W → Calls Try.prog 126 #[(.agg (C i).toArray), .pointer (some ⟨b, 0, none⟩)] W (RightV (!R i) W)) :
    Calls Try.prog 143 #[.slice A n c, .func (.func 126) #[] #[.pointer (some ⟨b, 0, none⟩)]] w (IxV (allB n R) w) := by
  unfold maxLen at hn
  have HA := Lib.hid hA; have HC := Lib.hid hcall; have HOK := Lib.hid hok
  clear hA hcall hok
  go_enter Try.func143, Try.ntmps143
  go_wp2_with fail
  go_loopg [8] n (fun gk i wr => ∃ j : Nat, j ≤ n ∧ gk = n - j ∧ i = .int .i64 j ∧ Hid (∀ k, k < j → R k = true) ∧ Hid (Below w.heap.size w wr))
  case atStart => exact ⟨0, Nat.zero_le _, rfl, rfl, Lib.hid (fun k hk => absurd hk (by omega)), Lib.hid (Below.refl _ _)⟩
  case round =>
    obtain ⟨j, hj, rfl, rfl, HALL, HBR⟩ := hrel
    by_cases hlt : j < n
    · obtain ⟨g, o, rfl, hc1⟩ := HA.out (by omega)
      have r1 := range_at HBR.out hc1 hlt (HOK.out j hlt).1
      have IE := Lib.hid (show (Try.prog.info? 93).map (·.size) = some (C j).length from by rw [(HOK.out j hlt).1]; kernel_rfl)
      have RR := Lib.hid r1
      clear r1 hc1
      have hj1 : (j : Int) < (n : Int) := by omega
      have hj0 : (0 : Int) ≤ (j : Int) := by omega
      go_wp2_with (((with_reducible refine at_ld 15 ?_); refine wpList_load_mid rfl 93 (.tmp 14) rfl g (o + j * 8) rfl (C j) _ RR.out Try.underlying93 rfl IE.out ?_))
      refine (HC.out j hlt _ HBR.out).mono ?_
      rintro e w2 ⟨rfl, hb2⟩
      have HB2 : Hid (Below w.heap.size w w2) := Lib.hid (bl_tr HBR.out hb2)
      clear hb2
      cases hq : R j with
      | false =>
        go_wp2_with fail
        go_ret
        exact ⟨_, rfl, .inl ⟨by omega, allB_false hlt hq⟩, HB2.out⟩
      | true =>
        go_wp2_with fail
        go_roundg (n - (j + 1))
        case measure => omega
        case rel =>
          refine ⟨j + 1, by omega, rfl, by go_num, Lib.hid (fun k hk => ?_), HB2⟩
          by_cases h : k = j
          · subst h; exact hq
          · exact HALL.out k (by omega)
    · obtain rfl : j = n := by omega
      go_wp2_with fail
      go_ret
      exact ⟨_, rfl, .inr ⟨rfl, allB_all HALL.out⟩, HBR.out⟩
set_option maxRecDepth 100000 in
set_option maxHeartbeats 4000000 in
theorem cont_Expr (C : Nat → List Value) (A : Option Addr) (n c : Nat) (R : Nat → Bool) (b : Nat) (w : World) (hn : n ≤ maxLen) (hA : SlAt (mem w) 8 A n C) (hok : ∀ i, i < n → Ok 8 (C i)) 
    (hcall : ∀ i, i < n → ∀ W, Below w.heap.size w W → Calls Try.prog 126 #[(.agg (C i).toArray), .pointer (some ⟨b, 0, none⟩)] W (RightV (!R i) W)) :
    Calls Try.prog 125 #[.slice A n c, .func (.func 126) #[] #[.pointer (some ⟨b, 0, none⟩)]] w (RightV (!allB n R) w) := by
  have HX := Lib.hid (ix_Expr C A n c R b w hn hA hok hcall)
  clear hA hcall hok hn
  go_enter Try.func125, Try.ntmps125
  go_wp2_with fail
  refine HX.out.mono ?_
  rintro e w2 ⟨z, rfl, hz, hb⟩
  rcases hz with ⟨h0, hr⟩ | ⟨rfl, hr⟩
  · rw [hr]
    go_wp2_with fail
    go_ret
    exact ⟨ret_b (by simp [hr]), hb⟩
  · rw [hr]
    go_wp2_with fail
    go_ret
    exact ⟨ret_b (by simp [hr]), hb⟩
set_option maxRecDepth 100000 in
set_option maxHeartbeats 4000000 in
theorem every_Expr (C : Nat → List Value) (A : Option Addr) (n c : Nat) (R : Nat → Bool) (k : FuncId) (env : Array Value) (w : World) (hcf : Enters Try.prog k) (hn : n ≤ maxLen) (hA : SlAt (mem w) 8 A n C) (hok : ∀ i, i < n → Ok 8 (C i)) 
    (hcall : ∀ i, i < n → ∀ W, Below w.heap.size w W → Calls Try.prog k (#[(.agg (C i).toArray)] ++ env) W (RightV (R i) W)) :
    Calls Try.prog 101 #[.slice A n c, .func (.func k) #[] env] w (RightV (allB n R) w) := by
  have hx := fun (W : World) (hW : Below w.heap.size w W) (hb : W.cell? ⟨w.heap.size, 0, none⟩ = some (.func (.func k) #[] env)) =>
    cont_Expr C A n c R w.heap.size W hn (hA.mono (mem_below hW) (fun i hi => (hok i hi).1)) hok (fun i hi W2 hW2 => ev1_Expr (C i) (hok i hi) k env w.heap.size (R i) W2 hcf ((hW2.cell (p := ⟨w.heap.size, 0, none⟩) (cell_lt hb)).trans hb) (fun W3 hW3 => hcall i hi W3 (bl_tr (bl_tr hW hW2) hW3)))
  have HX := Lib.hid hx
  clear hx hcall hA hok
  go_enter Try.func101, Try.ntmps101
  go_wp2_with fail
  refine (HX.out _ (bl1 w _) ?_).mono ?_
  · exact (cell_of_row _ _ 0 _ _ _ (heap_alloc_new w _)).trans rfl
  rintro e w2 ⟨rfl, hb⟩
  have HB := Lib.hid (bl_tr (bl1 w _) hb)
  go_wp2_with fail
  go_ret
  exact ⟨ret_b (by simp), HB.out⟩

set_option maxRecDepth 100000 in
set_option maxHeartbeats 4000000 in
theorem ev1_Alt (C : List Value) (hC : Ok 13 C) (k : FuncId) (env : Array Value) (b : Nat) (r : Bool) (w : World) (hcf : Enters Try.prog k) (hb : w.cell? ⟨b, 0, none⟩ = some (.func (.func k) #[] env))
    (hcall : ∀ W, Below w.heap.size w W → Calls Try.prog k (#[(.agg C.toArray)] ++ env) W (RightV r W)) : Calls Try.prog 128 #[(.agg C.toArray), .pointer (some ⟨b, 0, none⟩)] w (RightV (!r) w) := by
  have IE := Lib.hid (show (Try.prog.info? 135).map (·.size) = some C.length from by rw [hC.1]; kernel_rfl)
  have RR := Lib.hid (range_new w 135 C)
  clear hC
  have hb2 : ∀ o, (w.alloc o).cell? ⟨b, 0, none⟩ = some (.func (.func k) #[] env) := fun o => ((bl1 w o).cell (p := ⟨b, 0, none⟩) (cell_lt hb)).trans hb
  have HC := Lib.hid hcall
  clear hcall
  have hcf2 : ∀ args W, Sem.run Try.prog (callFunc k args) W = .ok (.enter k args) W := hcf
  clear hcf
  go_enter Try.func128, Try.ntmps128
  go_wp2_with (((with_reducible refine at_ld 5 ?_); refine wpList_load_mid rfl 135 (.tmp 2) rfl w.heap.size 0 rfl C _ RR.out Try.underlying135 rfl IE.out ?_))
  refine (HC.out _ (bl1 w _)).mono ?_
  rintro e w2 ⟨rfl, hb2'⟩
  have HB2 : Hid (Below w.heap.size w w2) := Lib.hid (bl_tr (bl1 w _) hb2')
  clear hb2' hb2
  go_wp2_with fail
  go_ret
  exact ⟨rfl, HB2.out⟩
set_option maxRecDepth 100000 in
set_option maxHeartbeats 4000000 in
theorem ix_Alt (C : Nat → List Value) (A : Option Addr) (n c : Nat) (R : Nat → Bool) (b : Nat) (w : World) (hn : n ≤ maxLen) (hA : SlAt (mem w) 13 A n C) (hok : ∀ i, i < n → Ok 13 (C i)) 
    (hcall : ∀ i, i < n → ∀ W, Below w.heap.size w W → Calls Try.prog 128 #[(.agg (C i).toArray), .pointer (some ⟨b, 0, none⟩)] W (RightV (!R i) W)) :
    Calls Try.prog 144 #[.slice A n c, .func (.func 128) #[] #[.pointer (some ⟨b, 0, none⟩)]] w (IxV (allB n R) w) := by
  unfold maxLen at hn
  have HA := Lib.hid hA; have HC := Lib.hid hcall; have HOK := Lib.hid hok
  clear hA hcall hok
  go_enter Try.func144, Try.ntmps144
  go_wp2_with fail
  go_loopg [8] n (fun gk i wr => ∃ j : Nat, j ≤ n ∧ gk = n - j ∧ i = .int .i64 j ∧ Hid (∀ k, k < j → R k = true) ∧ Hid (Below w.heap.size w wr))
  case atStart => exact ⟨0, Nat.zero_le _, rfl, rfl, Lib.hid (fun k hk => absurd hk (by omega)), Lib.hid (Below.refl _ _)⟩
  case round =>
    obtain ⟨j, hj, rfl, rfl, HALL, HBR⟩ := hrel
    by_cases hlt : j < n
    · obtain ⟨g, o, rfl, hc1⟩ := HA.out (by omega)
      have r1 := range_at HBR.out hc1 hlt (HOK.out j hlt).1
      have IE := Lib.hid (show (Try.prog.info? 135).map (·.size) = some (C j).length from by rw [(HOK.out j hlt).1]; kernel_rfl)
      have RR := Lib.hid r1
      clear r1 hc1
      have hj1 : (j : Int) < (n : Int) := by omega
      have hj0 : (0 : Int) ≤ (j : Int) := by omega
      go_wp2_with (((with_reducible refine at_ld 15 ?_); refine wpList_load_mid rfl 135 (.tmp 14) rfl g (o + j * 13) rfl (C j) _ RR.out Try.underlying135 rfl IE.out ?_))
      refine (HC.out j hlt _ HBR.out).mono ?_
      rintro e w2 ⟨rfl, hb2⟩
      have HB2 : Hid (Below w.heap.size w w2) := Lib.hid (bl_tr HBR.out hb2)
      clear hb2
      cases hq : R j with
      | false =>
        go_wp2_with fail
        go_ret
        exact ⟨_, rfl, .inl ⟨by omega, allB_false hlt hq⟩, HB2.out⟩
      | true =>
        go_wp2_with fail
        go_roundg (n - (j + 1))
        case measure => omega
        case rel =>
          refine ⟨j + 1, by omega, rfl, by go_num, Lib.hid (fun k hk => ?_), HB2⟩
          by_cases h : k = j
          · subst h; exact hq
          · exact HALL.out k (by omega)
    · obtain rfl : j = n := by omega
      go_wp2_with fail
      go_ret
      exact ⟨_, rfl, .inr ⟨rfl, allB_all HALL.out⟩, HBR.out⟩
set_option maxRecDepth 100000 in
set_option maxHeartbeats 4000000 in
theorem cont_Alt (C : Nat → List Value) (A : Option Addr) (n c : Nat) (R : Nat → Bool) (b : Nat) (w : World) (hn : n ≤ maxLen) (hA : SlAt (mem w) 13 A n C) (hok : ∀ i, i < n → Ok 13 (C i)) 
    (hcall : ∀ i, i < n → ∀ W, Below w.heap.size w W → Calls Try.prog 128 #[(.agg (C i).toArray), .pointer (some ⟨b, 0, none⟩)] W (RightV (!R i) W)) :
    Calls Try.prog 127 #[.slice A n c, .func (.func 128) #[] #[.pointer (some ⟨b, 0, none⟩)]] w (RightV (!allB n R) w) := by
  have HX := Lib.hid (ix_Alt C A n c R b w hn hA hok hcall)
  clear hA hcall hok hn
  go_enter Try.func127, Try.ntmps127
  go_wp2_with fail
  refine HX.out.mono ?_
  rintro e w2 ⟨z, rfl, hz, hb⟩
  rcases hz with ⟨h0, hr⟩ | ⟨rfl, hr⟩
  · rw [hr]
    go_wp2_with fail
    go_ret
    exact ⟨ret_b (by simp [hr]), hb⟩
  · rw [hr]
    go_wp2_with fail
    go_ret
    exact ⟨ret_b (by simp [hr]), hb⟩
set_option maxRecDepth 100000 in
set_option maxHeartbeats 4000000 in
theorem every_Alt (C : Nat → List Value) (A : Option Addr) (n c : Nat) (R : Nat → Bool) (k : FuncId) (env : Array Value) (w : World) (hcf : Enters Try.prog k) (hn : n ≤ maxLen) (hA : SlAt (mem w) 13 A n C) (hok : ∀ i, i < n → Ok 13 (C i)) 
    (hcall : ∀ i, i < n → ∀ W, Below w.heap.size w W → Calls Try.prog k (#[(.agg (C i).toArray)] ++ env) W (RightV (R i) W)) :
    Calls Try.prog 103 #[.slice A n c, .func (.func k) #[] env] w (RightV (allB n R) w) := by
  have hx := fun (W : World) (hW : Below w.heap.size w W) (hb : W.cell? ⟨w.heap.size, 0, none⟩ = some (.func (.func k) #[] env)) =>
    cont_Alt C A n c R w.heap.size W hn (hA.mono (mem_below hW) (fun i hi => (hok i hi).1)) hok (fun i hi W2 hW2 => ev1_Alt (C i) (hok i hi) k env w.heap.size (R i) W2 hcf ((hW2.cell (p := ⟨w.heap.size, 0, none⟩) (cell_lt hb)).trans hb) (fun W3 hW3 => hcall i hi W3 (bl_tr (bl_tr hW hW2) hW3)))
  have HX := Lib.hid hx
  clear hx hcall hA hok
  go_enter Try.func103, Try.ntmps103
  go_wp2_with fail
  refine (HX.out _ (bl1 w _) ?_).mono ?_
  · exact (cell_of_row _ _ 0 _ _ _ (heap_alloc_new w _)).trans rfl
  rintro e w2 ⟨rfl, hb⟩
  have HB := Lib.hid (bl_tr (bl1 w _) hb)
  go_wp2_with fail
  go_ret
  exact ⟨ret_b (by simp), HB.out⟩

set_option maxRecDepth 100000 in
set_option maxHeartbeats 4000000 in
theorem ev1_Decl (C : List Value) (hC : Ok 18 C) (k : FuncId) (env : Array Value) (b : Nat) (r : Bool) (w : World) (hcf : Enters Try.prog k) (hb : w.cell? ⟨b, 0, none⟩ = some (.func (.func k) #[] env))
    (hcall : ∀ W, Below w.heap.size w W → Calls Try.prog k (#[(.agg C.toArray)] ++ env) W (RightV r W)) : Calls Try.prog 137 #[(.agg C.toArray), .pointer (some ⟨b, 0, none⟩)] w (RightV (!r) w) := by
  have IE := Lib.hid (show (Try.prog.info? 171).map (·.size) = some C.length from by rw [hC.1]; kernel_rfl)
  have RR := Lib.hid (range_new w 171 C)
  clear hC
  have hb2 : ∀ o, (w.alloc o).cell? ⟨b, 0, none⟩ = some (.func (.func k) #[] env) := fun o => ((bl1 w o).cell (p := ⟨b, 0, none⟩) (cell_lt hb)).trans hb
  have HC := Lib.hid hcall
  clear hcall
  have hcf2 : ∀ args W, Sem.run Try.prog (callFunc k args) W = .ok (.enter k args) W := hcf
  clear hcf
  go_enter Try.func137, Try.ntmps137
  go_wp2_with (((with_reducible refine at_ld 5 ?_); refine wpList_load_mid rfl 171 (.tmp 2) rfl w.heap.size 0 rfl C _ RR.out Try.underlying171 rfl IE.out ?_))
  refine (HC.out _ (bl1 w _)).mono ?_
  rintro e w2 ⟨rfl, hb2'⟩
  have HB2 : Hid (Below w.heap.size w w2) := Lib.hid (bl_tr (bl1 w _) hb2')
  clear hb2' hb2
  go_wp2_with fail
  go_ret
  exact ⟨rfl, HB2.out⟩
set_option maxRecDepth 100000 in
set_option maxHeartbeats 4000000 in
theorem ix_Decl (C : Nat → List Value) (A : Option Addr) (n c : Nat) (R : Nat → Bool) (b : Nat) (w : World) (hn : n ≤ maxLen) (hA : SlAt (mem w) 18 A n C) (hok : ∀ i, i < n → Ok 18 (C i)) 
    (hcall : ∀ i, i < n → ∀ W, Below w.heap.size w W → Calls Try.prog 137 #[(.agg (C i).toArray), .pointer (some ⟨b, 0, none⟩)] W (RightV (!R i) W)) :
    Calls Try.prog 152 #[.slice A n c, .func (.func 137) #[] #[.pointer (some ⟨b, 0, none⟩)]] w (IxV (allB n R) w) := by
  unfold maxLen at hn
  have HA := Lib.hid hA; have HC := Lib.hid hcall; have HOK := Lib.hid hok
  clear hA hcall hok
  go_enter Try.func152, Try.ntmps152
  go_wp2_with fail
  go_loopg [8] n (fun gk i wr => ∃ j : Nat, j ≤ n ∧ gk = n - j ∧ i = .int .i64 j ∧ Hid (∀ k, k < j → R k = true) ∧ Hid (Below w.heap.size w wr))
  case atStart => exact ⟨0, Nat.zero_le _, rfl, rfl, Lib.hid (fun k hk => absurd hk (by omega)), Lib.hid (Below.refl _ _)⟩
  case round =>
    obtain ⟨j, hj, rfl, rfl, HALL, HBR⟩ := hrel
    by_cases hlt : j < n
    · obtain ⟨g, o, rfl, hc1⟩ := HA.out (by omega)
      have r1 := range_at HBR.out hc1 hlt (HOK.out j hlt).1
      have IE := Lib.hid (show (Try.prog.info? 171).map (·.size) = some (C j).length from by rw [(HOK.out j hlt).1]; kernel_rfl)
      have RR := Lib.hid r1
      clear r1 hc1
      have hj1 : (j : Int) < (n : Int) := by omega
      have hj0 : (0 : Int) ≤ (j : Int) := by omega
      go_wp2_with (((with_reducible refine at_ld 15 ?_); refine wpList_load_mid rfl 171 (.tmp 14) rfl g (o + j * 18) rfl (C j) _ RR.out Try.underlying171 rfl IE.out ?_))
      refine (HC.out j hlt _ HBR.out).mono ?_
      rintro e w2 ⟨rfl, hb2⟩
      have HB2 : Hid (Below w.heap.size w w2) := Lib.hid (bl_tr HBR.out hb2)
      clear hb2
      cases hq : R j with
      | false =>
        go_wp2_with fail
        go_ret
        exact ⟨_, rfl, .inl ⟨by omega, allB_false hlt hq⟩, HB2.out⟩
      | true =>
        go_wp2_with fail
        go_roundg (n - (j + 1))
        case measure => omega
        case rel =>
          refine ⟨j + 1, by omega, rfl, by go_num, Lib.hid (fun k hk => ?_), HB2⟩
          by_cases h : k = j
          · subst h; exact hq
          · exact HALL.out k (by omega)
    · obtain rfl : j = n := by omega
      go_wp2_with fail
      go_ret
      exact ⟨_, rfl, .inr ⟨rfl, allB_all HALL.out⟩, HBR.out⟩
set_option maxRecDepth 100000 in
set_option maxHeartbeats 4000000 in
theorem cont_Decl (C : Nat → List Value) (A : Option Addr) (n c : Nat) (R : Nat → Bool) (b : Nat) (w : World) (hn : n ≤ maxLen) (hA : SlAt (mem w) 18 A n C) (hok : ∀ i, i < n → Ok 18 (C i)) 
    (hcall : ∀ i, i < n → ∀ W, Below w.heap.size w W → Calls Try.prog 137 #[(.agg (C i).toArray), .pointer (some ⟨b, 0, none⟩)] W (RightV (!R i) W)) :
    Calls Try.prog 136 #[.slice A n c, .func (.func 137) #[] #[.pointer (some ⟨b, 0, none⟩)]] w (RightV (!allB n R) w) := by
  have HX := Lib.hid (ix_Decl C A n c R b w hn hA hok hcall)
  clear hA hcall hok hn
  go_enter Try.func136, Try.ntmps136
  go_wp2_with fail
  refine HX.out.mono ?_
  rintro e w2 ⟨z, rfl, hz, hb⟩
  rcases hz with ⟨h0, hr⟩ | ⟨rfl, hr⟩
  · rw [hr]
    go_wp2_with fail
    go_ret
    exact ⟨ret_b (by simp [hr]), hb⟩
  · rw [hr]
    go_wp2_with fail
    go_ret
    exact ⟨ret_b (by simp [hr]), hb⟩
set_option maxRecDepth 100000 in
set_option maxHeartbeats 4000000 in
theorem every_Decl (C : Nat → List Value) (A : Option Addr) (n c : Nat) (R : Nat → Bool) (k : FuncId) (env : Array Value) (w : World) (hcf : Enters Try.prog k) (hn : n ≤ maxLen) (hA : SlAt (mem w) 18 A n C) (hok : ∀ i, i < n → Ok 18 (C i)) 
    (hcall : ∀ i, i < n → ∀ W, Below w.heap.size w W → Calls Try.prog k (#[(.agg (C i).toArray)] ++ env) W (RightV (R i) W)) :
    Calls Try.prog 122 #[.slice A n c, .func (.func k) #[] env] w (RightV (allB n R) w) := by
  have hx := fun (W : World) (hW : Below w.heap.size w W) (hb : W.cell? ⟨w.heap.size, 0, none⟩ = some (.func (.func k) #[] env)) =>
    cont_Decl C A n c R w.heap.size W hn (hA.mono (mem_below hW) (fun i hi => (hok i hi).1)) hok (fun i hi W2 hW2 => ev1_Decl (C i) (hok i hi) k env w.heap.size (R i) W2 hcf ((hW2.cell (p := ⟨w.heap.size, 0, none⟩) (cell_lt hb)).trans hb) (fun W3 hW3 => hcall i hi W3 (bl_tr (bl_tr hW hW2) hW3)))
  have HX := Lib.hid hx
  clear hx hcall hA hok
  go_enter Try.func122, Try.ntmps122
  go_wp2_with fail
  refine (HX.out _ (bl1 w _) ?_).mono ?_
  · exact (cell_of_row _ _ 0 _ _ _ (heap_alloc_new w _)).trans rfl
  rintro e w2 ⟨rfl, hb⟩
  have HB := Lib.hid (bl_tr (bl1 w _) hb)
  go_wp2_with fail
  go_ret
  exact ⟨ret_b (by simp), HB.out⟩

set_option maxRecDepth 100000 in
set_option maxHeartbeats 4000000 in
theorem ev1_Cons (C : List Value) (hC : Ok 3 C) (k : FuncId) (env : Array Value) (b : Nat) (r : Bool) (w : World) (hcf : Enters Try.prog k) (hb : w.cell? ⟨b, 0, none⟩ = some (.func (.func k) #[] env))
    (hcall : ∀ W, Below w.heap.size w W → Calls Try.prog k (#[(.agg C.toArray)] ++ env) W (RightV r W)) : Calls Try.prog 154 #[(.agg C.toArray), .pointer (some ⟨b, 0, none⟩)] w (RightV (!r) w) := by
  have IE := Lib.hid (show (Try.prog.info? 176).map (·.size) = some C.length from by rw [hC.1]; kernel_rfl)
  have RR := Lib.hid (range_new w 176 C)
  clear hC
  have hb2 : ∀ o, (w.alloc o).cell? ⟨b, 0, none⟩ = some (.func (.func k) #[] env) := fun o => ((bl1 w o).cell (p := ⟨b, 0, none⟩) (cell_lt hb)).trans hb
  have HC := Lib.hid hcall
  clear hcall
  have hcf2 : ∀ args W, Sem.run Try.prog (callFunc k args) W = .ok (.enter k args) W := hcf
  clear hcf
  go_enter Try.func154, Try.ntmps154
  go_wp2_with (((with_reducible refine at_ld 5 ?_); refine wpList_load_mid rfl 176 (.tmp 2) rfl w.heap.size 0 rfl C _ RR.out Try.underlying176 rfl IE.out ?_))
  refine (HC.out _ (bl1 w _)).mono ?_
  rintro e w2 ⟨rfl, hb2'⟩
  have HB2 : Hid (Below w.heap.size w w2) := Lib.hid (bl_tr (bl1 w _) hb2')
  clear hb2' hb2
  go_wp2_with fail
  go_ret
  exact ⟨rfl, HB2.out⟩
set_option maxRecDepth 100000 in
set_option maxHeartbeats 4000000 in
theorem ix_Cons (C : Nat → List Value) (A : Option Addr) (n c : Nat) (R : Nat → Bool) (b : Nat) (w : World) (hn : n ≤ maxLen) (hA : SlAt (mem w) 3 A n C) (hok : ∀ i, i < n → Ok 3 (C i)) 
    (hcall : ∀ i, i < n → ∀ W, Below w.heap.size w W → Calls Try.prog 154 #[(.agg (C i).toArray), .pointer (some ⟨b, 0, none⟩)] W (RightV (!R i) W)) :
    Calls Try.prog 160 #[.slice A n c, .func (.func 154) #[] #[.pointer (some ⟨b, 0, none⟩)]] w (IxV (allB n R) w) := by
  unfold maxLen at hn
  have HA := Lib.hid hA; have HC := Lib.hid hcall; have HOK := Lib.hid hok
  clear hA hcall hok
  go_enter Try.func160, Try.ntmps160
  go_wp2_with fail
  go_loopg [8] n (fun gk i wr => ∃ j : Nat, j ≤ n ∧ gk = n - j ∧ i = .int .i64 j ∧ Hid (∀ k, k < j → R k = true) ∧ Hid (Below w.heap.size w wr))
  case atStart => exact ⟨0, Nat.zero_le _, rfl, rfl, Lib.hid (fun k hk => absurd hk (by omega)), Lib.hid (Below.refl _ _)⟩
  case round =>
    obtain ⟨j, hj, rfl, rfl, HALL, HBR⟩ := hrel
    by_cases hlt : j < n
    · obtain ⟨g, o, rfl, hc1⟩ := HA.out (by omega)
      have r1 := range_at HBR.out hc1 hlt (HOK.out j hlt).1
      have IE := Lib.hid (show (Try.prog.info? 176).map (·.size) = some (C j).length from by rw [(HOK.out j hlt).1]; kernel_rfl)
      have RR := Lib.hid r1
      clear r1 hc1
      have hj1 : (j : Int) < (n : Int) := by omega
      have hj0 : (0 : Int) ≤ (j : Int) := by omega
      go_wp2_with (((with_reducible refine at_ld 15 ?_); refine wpList_load_mid rfl 176 (.tmp 14) rfl g (o + j * 3) rfl (C j) _ RR.out Try.underlying176 rfl IE.out ?_))
      refine (HC.out j hlt _ HBR.out).mono ?_
      rintro e w2 ⟨rfl, hb2⟩
      have HB2 : Hid (Below w.heap.size w w2) := Lib.hid (bl_tr HBR.out hb2)
      clear hb2
      cases hq : R j with
      | false =>
        go_wp2_with fail
        go_ret
        exact ⟨_, rfl, .inl ⟨by omega, allB_false hlt hq⟩, HB2.out⟩
      | true =>
        go_wp2_with fail
        go_roundg (n - (j + 1))
        case measure => omega
        case rel =>
          refine ⟨j + 1, by omega, rfl, by go_num, Lib.hid (fun k hk => ?_), HB2⟩
          by_cases h : k = j
          · subst h; exact hq
          · exact HALL.out k (by omega)
    · obtain rfl : j = n := by omega
      go_wp2_with fail
      go_ret
      exact ⟨_, rfl, .inr ⟨rfl, allB_all HALL.out⟩, HBR.out⟩
set_option maxRecDepth 100000 in
set_option maxHeartbeats 4000000 in
theorem cont_Cons (C : Nat → List Value) (A : Option Addr) (n c : Nat) (R : Nat → Bool) (b : Nat) (w : World) (hn : n ≤ maxLen) (hA : SlAt (mem w) 3 A n C) (hok : ∀ i, i < n → Ok 3 (C i)) 
    (hcall : ∀ i, i < n → ∀ W, Below w.heap.size w W → Calls Try.prog 154 #[(.agg (C i).toArray), .pointer (some ⟨b, 0, none⟩)] W (RightV (!R i) W)) :
    Calls Try.prog 153 #[.slice A n c, .func (.func 154) #[] #[.pointer (some ⟨b, 0, none⟩)]] w (RightV (!allB n R) w) := by
  have HX := Lib.hid (ix_Cons C A n c R b w hn hA hok hcall)
  clear hA hcall hok hn
  go_enter Try.func153, Try.ntmps153
  go_wp2_with fail
  refine HX.out.mono ?_
  rintro e w2 ⟨z, rfl, hz, hb⟩
  rcases hz with ⟨h0, hr⟩ | ⟨rfl, hr⟩
  · rw [hr]
    go_wp2_with fail
    go_ret
    exact ⟨ret_b (by simp [hr]), hb⟩
  · rw [hr]
    go_wp2_with fail
    go_ret
    exact ⟨ret_b (by simp [hr]), hb⟩
set_option maxRecDepth 100000 in
set_option maxHeartbeats 4000000 in
theorem every_Cons (C : Nat → List Value) (A : Option Addr) (n c : Nat) (R : Nat → Bool) (k : FuncId) (env : Array Value) (w : World) (hcf : Enters Try.prog k) (hn : n ≤ maxLen) (hA : SlAt (mem w) 3 A n C) (hok : ∀ i, i < n → Ok 3 (C i)) 
    (hcall : ∀ i, i < n → ∀ W, Below w.heap.size w W → Calls Try.prog k (#[(.agg (C i).toArray)] ++ env) W (RightV (R i) W)) :
    Calls Try.prog 138 #[.slice A n c, .func (.func k) #[] env] w (RightV (allB n R) w) := by
  have hx := fun (W : World) (hW : Below w.heap.size w W) (hb : W.cell? ⟨w.heap.size, 0, none⟩ = some (.func (.func k) #[] env)) =>
    cont_Cons C A n c R w.heap.size W hn (hA.mono (mem_below hW) (fun i hi => (hok i hi).1)) hok (fun i hi W2 hW2 => ev1_Cons (C i) (hok i hi) k env w.heap.size (R i) W2 hcf ((hW2.cell (p := ⟨w.heap.size, 0, none⟩) (cell_lt hb)).trans hb) (fun W3 hW3 => hcall i hi W3 (bl_tr (bl_tr hW hW2) hW3)))
  have HX := Lib.hid hx
  clear hx hcall hA hok
  go_enter Try.func138, Try.ntmps138
  go_wp2_with fail
  refine (HX.out _ (bl1 w _) ?_).mono ?_
  · exact (cell_of_row _ _ 0 _ _ _ (heap_alloc_new w _)).trans rfl
  rintro e w2 ⟨rfl, hb⟩
  have HB := Lib.hid (bl_tr (bl1 w _) hb)
  go_wp2_with fail
  go_ret
  exact ⟨ret_b (by simp), HB.out⟩

set_option maxRecDepth 100000 in
set_option maxHeartbeats 4000000 in
theorem ev1_Type (C : List Value) (hC : Ok 4 C) (k : FuncId) (env : Array Value) (b : Nat) (r : Bool) (w : World) (hcf : Enters Try.prog k) (hb : w.cell? ⟨b, 0, none⟩ = some (.func (.func k) #[] env))
    (hcall : ∀ W, Below w.heap.size w W → Calls Try.prog k (#[(.agg C.toArray)] ++ env) W (RightV r W)) : Calls Try.prog 162 #[(.agg C.toArray), .pointer (some ⟨b, 0, none⟩)] w (RightV (!r) w) := by
  have IE := Lib.hid (show (Try.prog.info? 167).map (·.size) = some C.length from by rw [hC.1]; kernel_rfl)
  have RR := Lib.hid (range_new w 167 C)
  clear hC
  have hb2 : ∀ o, (w.alloc o).cell? ⟨b, 0, none⟩ = some (.func (.func k) #[] env) := fun o => ((bl1 w o).cell (p := ⟨b, 0, none⟩) (cell_lt hb)).trans hb
  have HC := Lib.hid hcall
  clear hcall
  have hcf2 : ∀ args W, Sem.run Try.prog (callFunc k args) W = .ok (.enter k args) W := hcf
  clear hcf
  go_enter Try.func162, Try.ntmps162
  go_wp2_with (((with_reducible refine at_ld 5 ?_); refine wpList_load_mid rfl 167 (.tmp 2) rfl w.heap.size 0 rfl C _ RR.out Try.underlying167 rfl IE.out ?_))
  refine (HC.out _ (bl1 w _)).mono ?_
  rintro e w2 ⟨rfl, hb2'⟩
  have HB2 : Hid (Below w.heap.size w w2) := Lib.hid (bl_tr (bl1 w _) hb2')
  clear hb2' hb2
  go_wp2_with fail
  go_ret
  exact ⟨rfl, HB2.out⟩
set_option maxRecDepth 100000 in
set_option maxHeartbeats 4000000 in
theorem ix_Type (C : Nat → List Value) (A : Option Addr) (n c : Nat) (R : Nat → Bool) (b : Nat) (w : World) (hn : n ≤ maxLen) (hA : SlAt (mem w) 4 A n C) (hok : ∀ i, i < n → Ok 4 (C i)) 
    (hcall : ∀ i, i < n → ∀ W, Below w.heap.size w W → Calls Try.prog 162 #[(.agg (C i).toArray), .pointer (some ⟨b, 0, none⟩)] W (RightV (!R i) W)) :
    Calls Try.prog 165 #[.slice A n c, .func (.func 162) #[] #[.pointer (some ⟨b, 0, none⟩)]] w (IxV (allB n R) w) := by
  unfold maxLen at hn
  have HA := Lib.hid hA; have HC := Lib.hid hcall; have HOK := Lib.hid hok
  clear hA hcall hok
  go_enter Try.func165, Try.ntmps165
  go_wp2_with fail
  go_loopg [8] n (fun gk i wr => ∃ j : Nat, j ≤ n ∧ gk = n - j ∧ i = .int .i64 j ∧ Hid (∀ k, k < j → R k = true) ∧ Hid (Below w.heap.size w wr))
  case atStart => exact ⟨0, Nat.zero_le _, rfl, rfl, Lib.hid (fun k hk => absurd hk (by omega)), Lib.hid (Below.refl _ _)⟩
  case round =>
    obtain ⟨j, hj, rfl, rfl, HALL, HBR⟩ := hrel
    by_cases hlt : j < n
    · obtain ⟨g, o, rfl, hc1⟩ := HA.out (by omega)
      have r1 := range_at HBR.out hc1 hlt (HOK.out j hlt).1
      have IE := Lib.hid (show (Try.prog.info? 167).map (·.size) = some (C j).length from by rw [(HOK.out j hlt).1]; kernel_rfl)
      have RR := Lib.hid r1
      clear r1 hc1
      have hj1 : (j : Int) < (n : Int) := by omega
      have hj0 : (0 : Int) ≤ (j : Int) := by omega
      go_wp2_with (((with_reducible refine at_ld 15 ?_); refine wpList_load_mid rfl 167 (.tmp 14) rfl g (o + j * 4) rfl (C j) _ RR.out Try.underlying167 rfl IE.out ?_))
      refine (HC.out j hlt _ HBR.out).mono ?_
      rintro e w2 ⟨rfl, hb2⟩
      have HB2 : Hid (Below w.heap.size w w2) := Lib.hid (bl_tr HBR.out hb2)
      clear hb2
      cases hq : R j with
      | false =>
        go_wp2_with fail
        go_ret
        exact ⟨_, rfl, .inl ⟨by omega, allB_false hlt hq⟩, HB2.out⟩
      | true =>
        go_wp2_with fail
        go_roundg (n - (j + 1))
        case measure => omega
        case rel =>
          refine ⟨j + 1, by omega, rfl, by go_num, Lib.hid (fun k hk => ?_), HB2⟩
          by_cases h : k = j
          · subst h; exact hq
          · exact HALL.out k (by omega)
    · obtain rfl : j = n := by omega
      go_wp2_with fail
      go_ret
      exact ⟨_, rfl, .inr ⟨rfl, allB_all HALL.out⟩, HBR.out⟩
set_option maxRecDepth 100000 in
set_option maxHeartbeats 4000000 in
theorem cont_Type (C : Nat → List Value) (A : Option Addr) (n c : Nat) (R : Nat → Bool) (b : Nat) (w : World) (hn : n ≤ maxLen) (hA : SlAt (mem w) 4 A n C) (hok : ∀ i, i < n → Ok 4 (C i)) 
    (hcall : ∀ i, i < n → ∀ W, Below w.heap.size w W → Calls Try.prog 162 #[(.agg (C i).toArray), .pointer (some ⟨b, 0, none⟩)] W (RightV (!R i) W)) :
    Calls Try.prog 161 #[.slice A n c, .func (.func 162) #[] #[.pointer (some ⟨b, 0, none⟩)]] w (RightV (!allB n R) w) := by
  have HX := Lib.hid (ix_Type C A n c R b w hn hA hok hcall)
  clear hA hcall hok hn
  go_enter Try.func161, Try.ntmps161
  go_wp2_with fail
  refine HX.out.mono ?_
  rintro e w2 ⟨z, rfl, hz, hb⟩
  rcases hz with ⟨h0, hr⟩ | ⟨rfl, hr⟩
  · rw [hr]
    go_wp2_with fail
    go_ret
    exact ⟨ret_b (by simp [hr]), hb⟩
  · rw [hr]
    go_wp2_with fail
    go_ret
    exact ⟨ret_b (by simp [hr]), hb⟩
set_option maxRecDepth 100000 in
set_option maxHeartbeats 4000000 in
theorem every_Type (C : Nat → List Value) (A : Option Addr) (n c : Nat) (R : Nat → Bool) (k : FuncId) (env : Array Value) (w : World) (hcf : Enters Try.prog k) (hn : n ≤ maxLen) (hA : SlAt (mem w) 4 A n C) (hok : ∀ i, i < n → Ok 4 (C i)) 
    (hcall : ∀ i, i < n → ∀ W, Below w.heap.size w W → Calls Try.prog k (#[(.agg (C i).toArray)] ++ env) W (RightV (R i) W)) :
    Calls Try.prog 155 #[.slice A n c, .func (.func k) #[] env] w (RightV (allB n R) w) := by
  have hx := fun (W : World) (hW : Below w.heap.size w W) (hb : W.cell? ⟨w.heap.size, 0, none⟩ = some (.func (.func k) #[] env)) =>
    cont_Type C A n c R w.heap.size W hn (hA.mono (mem_below hW) (fun i hi => (hok i hi).1)) hok (fun i hi W2 hW2 => ev1_Type (C i) (hok i hi) k env w.heap.size (R i) W2 hcf ((hW2.cell (p := ⟨w.heap.size, 0, none⟩) (cell_lt hb)).trans hb) (fun W3 hW3 => hcall i hi W3 (bl_tr (bl_tr hW hW2) hW3)))
  have HX := Lib.hid hx
  clear hx hcall hA hok
  go_enter Try.func155, Try.ntmps155
  go_wp2_with fail
  refine (HX.out _ (bl1 w _) ?_).mono ?_
  · exact (cell_of_row _ _ 0 _ _ _ (heap_alloc_new w _)).trans rfl
  rintro e w2 ⟨rfl, hb⟩
  have HB := Lib.hid (bl_tr (bl1 w _) hb)
  go_wp2_with fail
  go_ret
  exact ⟨ret_b (by simp), HB.out⟩

set_option maxRecDepth 100000 in
set_option maxHeartbeats 4000000 in
theorem ev1_string (C : ByteArray) (k : FuncId) (env : Array Value) (b : Nat) (r : Bool) (w : World) (hcf : Enters Try.prog k) (hb : w.cell? ⟨b, 0, none⟩ = some (.func (.func k) #[] env))
    (hcall : ∀ W, Below w.heap.size w W → Calls Try.prog k (#[(.string C)] ++ env) W (RightV r W)) : Calls Try.prog 157 #[(.string C), .pointer (some ⟨b, 0, none⟩)] w (RightV (!r) w) := by
  have hb2 : ∀ o, (w.alloc o).cell? ⟨b, 0, none⟩ = some (.func (.func k) #[] env) := fun o => ((bl1 w o).cell (p := ⟨b, 0, none⟩) (cell_lt hb)).trans hb
  have HC := Lib.hid hcall
  clear hcall
  have hcf2 : ∀ args W, Sem.run Try.prog (callFunc k args) W = .ok (.enter k args) W := hcf
  clear hcf
  go_enter Try.func157, Try.ntmps157
  go_wp2_with fail
  refine (HC.out _ (Below.refl _ _)).mono ?_
  rintro e w2 ⟨rfl, hb2'⟩
  have HB2 : Hid (Below w.heap.size w w2) := Lib.hid (hb2')
  clear hb2' hb2
  go_wp2_with fail
  go_ret
  exact ⟨rfl, HB2.out⟩
set_option maxRecDepth 100000 in
set_option maxHeartbeats 4000000 in
theorem ix_string (C : Nat → ByteArray) (A : Option Addr) (n c : Nat) (R : Nat → Bool) (b : Nat) (w : World) (hn : n ≤ maxLen) (hA : SlAt (mem w) 1 A n (fun i => [.string (C i)])) 
    (hcall : ∀ i, i < n → ∀ W, Below w.heap.size w W → Calls Try.prog 157 #[(.string (C i)), .pointer (some ⟨b, 0, none⟩)] W (RightV (!R i) W)) :
    Calls Try.prog 163 #[.slice A n c, .func (.func 157) #[] #[.pointer (some ⟨b, 0, none⟩)]] w (IxV (allB n R) w) := by
  unfold maxLen at hn
  have HA := Lib.hid hA; have HC := Lib.hid hcall; 
  clear hA hcall 
  go_enter Try.func163, Try.ntmps163
  go_wp2_with fail
  go_loopg [8] n (fun gk i wr => ∃ j : Nat, j ≤ n ∧ gk = n - j ∧ i = .int .i64 j ∧ Hid (∀ k, k < j → R k = true) ∧ Hid (Below w.heap.size w wr))
  case atStart => exact ⟨0, Nat.zero_le _, rfl, rfl, Lib.hid (fun k hk => absurd hk (by omega)), Lib.hid (Below.refl _ _)⟩
  case round =>
    obtain ⟨j, hj, rfl, rfl, HALL, HBR⟩ := hrel
    by_cases hlt : j < n
    · obtain ⟨g, o, rfl, hc1⟩ := HA.out (by omega)
      have r1 : wr.cell? ⟨g, o + j, none⟩ = some (.string (C j)) := by
        have h := hc1 j hlt 0 (by omega)
        simp only [mem, Nat.mul_one, Nat.add_zero, List.getElem?_cons_zero] at h
        exact (HBR.out.cell (p := ⟨g, o + j, none⟩) (cell_lt h)).trans h
      clear hc1
      have hj1 : (j : Int) < (n : Int) := by omega
      have hj0 : (0 : Int) ≤ (j : Int) := by omega
      go_wp2_with fail
      refine (HC.out j hlt _ HBR.out).mono ?_
      rintro e w2 ⟨rfl, hb2⟩
      have HB2 : Hid (Below w.heap.size w w2) := Lib.hid (bl_tr HBR.out hb2)
      clear hb2
      cases hq : R j with
      | false =>
        go_wp2_with fail
        go_ret
        exact ⟨_, rfl, .inl ⟨by omega, allB_false hlt hq⟩, HB2.out⟩
      | true =>
        go_wp2_with fail
        go_roundg (n - (j + 1))
        case measure => omega
        case rel =>
          refine ⟨j + 1, by omega, rfl, by go_num, Lib.hid (fun k hk => ?_), HB2⟩
          by_cases h : k = j
          · subst h; exact hq
          · exact HALL.out k (by omega)
    · obtain rfl : j = n := by omega
      go_wp2_with fail
      go_ret
      exact ⟨_, rfl, .inr ⟨rfl, allB_all HALL.out⟩, HBR.out⟩
set_option maxRecDepth 100000 in
set_option maxHeartbeats 4000000 in
theorem cont_string (C : Nat → ByteArray) (A : Option Addr) (n c : Nat) (R : Nat → Bool) (b : Nat) (w : World) (hn : n ≤ maxLen) (hA : SlAt (mem w) 1 A n (fun i => [.string (C i)])) 
    (hcall : ∀ i, i < n → ∀ W, Below w.heap.size w W → Calls Try.prog 157 #[(.string (C i)), .pointer (some ⟨b, 0, none⟩)] W (RightV (!R i) W)) :
    Calls Try.prog 156 #[.slice A n c, .func (.func 157) #[] #[.pointer (some ⟨b, 0, none⟩)]] w (RightV (!allB n R) w) := by
  have HX := Lib.hid (ix_string C A n c R b w hn hA hcall)
  clear hA hcall  hn
  go_enter Try.func156, Try.ntmps156
  go_wp2_with fail
  refine HX.out.mono ?_
  rintro e w2 ⟨z, rfl, hz, hb⟩
  rcases hz with ⟨h0, hr⟩ | ⟨rfl, hr⟩
  · rw [hr]
    go_wp2_with fail
    go_ret
    exact ⟨ret_b (by simp [hr]), hb⟩
  · rw [hr]
    go_wp2_with fail
    go_ret
    exact ⟨ret_b (by simp [hr]), hb⟩
set_option maxRecDepth 100000 in
set_option maxHeartbeats 4000000 in
theorem every_string (C : Nat → ByteArray) (A : Option Addr) (n c : Nat) (R : Nat → Bool) (k : FuncId) (env : Array Value) (w : World) (hcf : Enters Try.prog k) (hn : n ≤ maxLen) (hA : SlAt (mem w) 1 A n (fun i => [.string (C i)])) 
    (hcall : ∀ i, i < n → ∀ W, Below w.heap.size w W → Calls Try.prog k (#[(.string (C i))] ++ env) W (RightV (R i) W)) :
    Calls Try.prog 141 #[.slice A n c, .func (.func k) #[] env] w (RightV (allB n R) w) := by
  have hx := fun (W : World) (hW : Below w.heap.size w W) (hb : W.cell? ⟨w.heap.size, 0, none⟩ = some (.func (.func k) #[] env)) =>
    cont_string C A n c R w.heap.size W hn (hA.mono (mem_below hW) (fun i hi => rfl)) (fun i hi W2 hW2 => ev1_string (C i) k env w.heap.size (R i) W2 hcf ((hW2.cell (p := ⟨w.heap.size, 0, none⟩) (cell_lt hb)).trans hb) (fun W3 hW3 => hcall i hi W3 (bl_tr (bl_tr hW hW2) hW3)))
  have HX := Lib.hid hx
  clear hx hcall hA 
  go_enter Try.func141, Try.ntmps141
  go_wp2_with fail
  refine (HX.out _ (bl1 w _) ?_).mono ?_
  · exact (cell_of_row _ _ 0 _ _ _ (heap_alloc_new w _)).trans rfl
  rintro e w2 ⟨rfl, hb⟩
  have HB := Lib.hid (bl_tr (bl1 w _) hb)
  go_wp2_with fail
  go_ret
  exact ⟨ret_b (by simp), HB.out⟩
end Go.Proofs.Ytfeghobfkgimfaa
