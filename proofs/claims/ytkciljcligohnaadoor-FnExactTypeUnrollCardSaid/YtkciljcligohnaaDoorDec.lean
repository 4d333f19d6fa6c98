/- l6Dec and l1List. -/
import Derived.Test.YtkciljcligohnaaDoorSFree2
import Derived.Laws.BytesArg
namespace Go.Proofs.YtkciljcligohnaaDoor
open Go.RowKit
set_option linter.unusedVariables false
set_option linter.unusedSimpArgs false

/-- Decimal digits. -/
def decL (n : Nat) : List UInt8 := if n < 10 then [UInt8.ofNat (48 + n)] else decL (n / 10) ++ [UInt8.ofNat (48 + n % 10)]
theorem str1 (z : Nat) : strOfNums [48 + (z : Int)] = St [UInt8.ofNat (48 + z)] := by
  have : ((48 + (z : Int))).toNat = 48 + z := by omega
  simp only [strOfNums, List.map_cons, List.map_nil, this]
theorem cell_heap {W W' : World} (h : W.heap = W'.heap) (a : Addr) : W.cell? a = W'.cell? a := by simp only [World.cell?, h]
theorem decL_len : ∀ (d n : Nat), n < 10 ^ (d + 1) → (decL n).length ≤ d + 1
  | 0, n, h => by
    rw [decL, if_pos (by omega)]
    simp
  | d + 1, n, h => by
    rw [decL]
    split
    · simp
    · have := decL_len d (n / 10) (by rw [Nat.pow_succ] at h; omega)
      simp
      omega

set_option maxHeartbeats 4000000 in
set_option maxRecDepth 100000 in
theorem l6Dec_small (n : Nat) (hn : n < 10) (w : World) : Calls Tryd.prog 115 #[.int .i64 n] w fun e w' => e = .returned (.string (St (decL n))) ∧ Below w.heap.size w w' := by
  rw [show decL n = [UInt8.ofNat (48 + n)] from by rw [decL, if_pos hn]]
  have h1 : (n : Int) < 10 := by omega
  have h0 : (0 : Int) ≤ n := by omega
  have kc : ∀ (W : World) (z : Int), (convert 27 9 (.slice (some ⟨W.heap.size, 0, none⟩) 1 1)).run Tryd.prog (W.alloc (.cells #[.int .u8 z] 5)) = .ok (.string (strOfNums [z])) (W.alloc (.cells #[.int .u8 z] 5)) := fun W z =>
    run_convert_bytes_arg (P := Tryd.prog) _ 27 5 Tryd.underlying27 Tryd.underlying5 W.heap.size 0 1 1 [_] rfl (fun i hi => by
      obtain rfl : i = 0 := by omega
      exact block_cell (block_new W _) 0) 9 Tryd.underlying9
  go_enter Tryd.func115, Tryd.ntmps115
  go_wp2
  go_ret
  exact ⟨by rw [← str1]; rfl, up1 w _⟩

set_option maxHeartbeats 1000000 in
set_option maxRecDepth 100000 in
theorem l6Dec_big (n : Nat) (hn : ¬ n < 10) (hn2 : n ≤ 100000000) (w : World) (ih : ∀ w, Calls Tryd.prog 115 #[.int .i64 (n / 10 : Nat)] w fun e w' => e = .returned (.string (St (decL (n / 10)))) ∧ Below w.heap.size w w') : Calls Tryd.prog 115 #[.int .i64 n] w fun e w' => e = .returned (.string (St (decL n))) ∧ Below w.heap.size w w' := by
  have IH := Lib.hid ih
  obtain ⟨q, hq⟩ : ∃ q, n / 10 = q := ⟨_, rfl⟩
  obtain ⟨r, hr⟩ : ∃ r, n % 10 = r := ⟨_, rfl⟩
  have ht1 : Int.tdiv (n : Int) 10 = (q : Int) := by rw [← hq]; exact (Int.ofNat_tdiv n 10).symm
  have ht2 : Int.tmod (n : Int) 10 = (r : Int) := by rw [← hr]; exact (Int.ofNat_tmod n 10).symm
  have ht3 : (n : Int) / 10 = (q : Int) := by omega
  have ht4 : (n : Int) % 10 = (r : Int) := by omega
  have hdec : decL n = decL q ++ [UInt8.ofNat (48 + r)] := by rw [decL, if_neg hn, hq, hr]
  have hlen : (decL q).length ≤ 9 := decL_len 8 q (by omega)
  rw [hdec]
  rw [hq] at IH
  have h1 : ¬ (n : Int) < 10 := by omega
  have h10 : (10 : Int) ≤ n := by omega
  have hn3 : (n : Int) ≤ 100000000 := by omega
  have hr9 : (r : Int) ≤ 9 := by omega
  have kc : ∀ (W : World) (g : Nat) (z : Int), W.cell? ⟨g, 0, none⟩ = some (.int .u8 z) → (convert 27 9 (.slice (some ⟨g, 0, none⟩) 1 1)).run Tryd.prog W = .ok (.string (strOfNums [z])) W := fun W g z hc =>
    run_convert_bytes_arg (P := Tryd.prog) _ 27 5 Tryd.underlying27 Tryd.underlying5 g 0 1 1 [_] rfl (fun i hi => by
      obtain rfl : i = 0 := by omega
      exact hc) 9 Tryd.underlying9
  have kd : ∀ (W : World) (z : Int), (convert 27 9 (.slice (some ⟨W.heap.size, 0, none⟩) 1 1)).run Tryd.prog (W.alloc (.cells #[.int .u8 z] 5)) = .ok (.string (strOfNums [z])) (W.alloc (.cells #[.int .u8 z] 5)) := fun W z => kc _ _ _ (block_cell (block_new W _) 0)
  have ke : ∀ (W : World) (z : Int), (convert 27 9 (.slice (some ⟨W.heap.size, 0, none⟩) 1 1)).run Tryd.prog (W.alloc (.cells #[.int .u8 z] 5)).drew = .ok (.string (strOfNums [z])) (W.alloc (.cells #[.int .u8 z] 5)).drew := fun W z => kc _ _ _ (block_cell (block_new W _) 0)
  have hw1 : IntKind.i64.wrap (q : Int) = q := by rw [IntKind.wrap_i64]; omega
  have hw2 : IntKind.i64.wrap (48 + (r : Int)) = 48 + (r : Int) := by rw [IntKind.wrap_i64]; omega
  have hw3 : IntKind.u8.wrap (48 + (r : Int)) = 48 + (r : Int) := by rw [IntKind.wrap_u8]; omega
  have hsz : (strOfNums [48 + (r : Int)]).size = 1 := strOfNums_size _
  have hdq : (St (decL q)).size ≤ 9 := hlen
  clear ih hn hq hr hdec
  generalize decL q = dq at *
  have HST : Hid (St dq ++ strOfNums [48 + (r : Int)] = St (dq ++ [UInt8.ofNat (48 + r)])) := by
    show _ = _
    rw [str1]
    apply ByteArray.ext
    simp [ByteArray.data_append]
  generalize hsd : St dq = bq at *
  clear hsd
  go_enter Tryd.func115, Tryd.ntmps115
  go_wp2
  go_region_with ((go_at_call 115; first
    | ((with_reducible refine (IH.out (w.alloc (.cells #[.int .u8 (48 + (r : Int))] 5)).drew).mono ?_); rintro e w2 ⟨rfl, hb2⟩; have dk : w2.cell? ⟨w.heap.size, 0, none⟩ = some (.int .u8 (48 + (r : Int))) := cell_up hb2 (show (w.alloc (.cells #[.int .u8 (48 + (r : Int))] 5)).drew.cell? _ = _ from block_cell (block_new w _) 0); have HB2 : Hid (Below w.heap.size w w2) := up_trans (up_drew (up1 w _)) hb2; clear hb2)
    | ((with_reducible refine (IH.out (w.alloc (.cells #[.int .u8 (48 + (r : Int))] 5))).mono ?_); rintro e w2 ⟨rfl, hb2⟩; have dk : w2.cell? ⟨w.heap.size, 0, none⟩ = some (.int .u8 (48 + (r : Int))) := cell_up hb2 (block_cell (block_new w _) 0); have HB2 : Hid (Below w.heap.size w w2) := up_trans (up1 w _) hb2; clear hb2)
    | ((with_reducible refine (IH.out w.drew).mono ?_); rintro e w2 ⟨rfl, hb2⟩; have HB2 : Hid (Below w.heap.size w w2) := up_trans (up_drew (Below.refl _ _)) hb2; clear hb2)
    | ((with_reducible refine (IH.out w).mono ?_); rintro e w2 ⟨rfl, hb2⟩; have HB2 : Hid (Below w.heap.size w w2) := hb2; clear hb2)))
  all_goals go_wp2
  all_goals go_ret
  all_goals refine ⟨congrArg (fun z => Ending.returned (.string z)) HST.out, ?_⟩
  all_goals first
    | exact HB2.out
    | exact up_alloc HB2.out _
    | exact up_drew (up_alloc HB2.out _)
    | exact up_alloc (up_drew HB2.out) _
    | exact up_drew HB2.out
    | (trace_state; sorry)

end Go.Proofs.YtkciljcligohnaaDoor
