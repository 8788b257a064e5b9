/-
  Contracts: the stable sort of an order by prices.
-/
import Derived.Test.YtejhngkbkcalaaaSm
namespace Go.Proofs.Ytejhngkbkcalaaa
open Go.RowKit
set_option linter.unusedVariables false
set_option linter.unusedSimpArgs false

/-- An order by prices. -/
def SortRes (P : Nat → Int) (n : Nat) (W : World) (g : Nat) : Prop := ∃ O, OrderOf O n ∧ sortedBy P O n ∧ OrdAt W g n O

set_option maxHeartbeats 4000000 in
set_option maxRecDepth 100000 in
theorem sort_stable (g n c : Nat) (O0 : Nat → Nat) (P : Nat → Int) (bx : Nat) (aP : Option Addr) (cP : Nat) (w : World) (hO : OrdAt w g n O0) (ho : OrderOf O0 n)
    (hx : w.cell? ⟨bx, 0, none⟩ = some (.slice aP n cP)) (hlx : bx < w.heap.size) (hbx : bx ≠ g) (hP : IntsAt w aP n P) (hPg : 0 < n → ∀ b o, aP = some ⟨b, o, none⟩ → b ≠ g) (hn : n ≤ 100) (hg : g < w.heap.size)
    (hc : n ≤ 19 ∨ ∀ i j, i < n → j < n → P i = P j) :
    Calls Try.prog 58 #[.slice (some ⟨g, 0, none⟩) n c, .int .i64 (n : Int), .func (.func 47) #[] #[.pointer (some ⟨bx, 0, none⟩)]] w
      fun e w' => e = .returned (.tuple #[]) ∧ SortRes P n w' g ∧ Keep g (g + 1) w w' := by
  have HX := Lib.hid (fun W (k : Keep g (g + 1) w W) => (k.cellk (o := 0) hlx (by omega)).trans hx)
  have HP := Lib.hid (fun W (k : Keep g (g + 1) w W) => hP.keepg k hPg)
  have HI := Lib.hid (fun (O : Nat → Nat) (a b : Nat) (W : World) (k : Keep g (g + 1) w W) (hO : OrdAt W g n O) (ho : OrderOf O n) (hb : b ≤ n) (ha : a ≤ 1000) => sort_insertion g n c O P bx aP cP a b W hO ho ((k.cellk (o := 0) hlx (by omega)).trans hx) (Nat.lt_of_lt_of_le hlx k.size) hbx (hP.keepg k hPg) hPg hb hn (Nat.lt_of_lt_of_le hg k.size) ha)
  by_cases h19 : n ≤ 19
  · have n20 : ¬ (20 : Int) ≤ (n : Int) := by omega
    have n21 : ¬ (20 : Int) < (n : Int) := by omega
    have ki := HI.out O0 0 n w (Keep.refl _ _ _) hO ho (Nat.le_refl _) (by omega)
    rw [show ((0 : Nat) : Int) = 0 from rfl] at ki
    clear HX HP HI hP hx hO ho hc hPg
    go_enter Try.func58, Try.ntmps58
    go_wp2_with fail
    go_loopw [7, 8] (fun a b wr => a = .int .i64 0 ∧ b = .int .i64 20 ∧ wr = w) (fun _ _ _ => 0)
    case atStart => exact ⟨rfl, rfl, rfl⟩
    case round =>
      obtain ⟨rfl, rfl, rfl⟩ := hrel
      go_wp2_with fail
      refine ki.mono ?_
      rintro e w1 ⟨⟨O, rfl, ho, hs, hO⟩, hK⟩
      have HF := Lib.hid (And.intro ho (And.intro hs hO))
      clear ho hs hO ki
      go_wp2_with fail
      go_loopw [6, 7, 8] (fun s _ _ wr => s = .int .i64 20 ∧ wr = w1) (fun _ _ _ _ => 0)
      case atStart => exact ⟨rfl, rfl⟩
      case round =>
        obtain ⟨rfl, rfl⟩ := hrel
        go_wp2_with fail
        go_returns
        exact ⟨rfl, ⟨O, HF.out.1, fun i j h1 h2 => HF.out.2.1 i j (Nat.zero_le _) h1 h2, HF.out.2.2⟩, hK⟩
  · have hEq : ∀ i j, i < n → j < n → P i = P j := by
      rcases hc with h | h
      · omega
      · exact h
    have HM := Lib.hid (fun (O : Nat → Nat) (A M B : Nat) (W : World) (k : Keep g (g + 1) w W) (hO : OrdAt W g n O) (ho : OrderOf O n) (h1 : A < M) (h2 : M < B) (h3 : B ≤ n) => sort_merge_eq g n c O P bx aP cP ho hn hEq (B - A) A M B W (Nat.le_refl _) h1 h2 h3 hO ((k.cellk (o := 0) hlx (by omega)).trans hx) (hP.keepg k hPg))
    have HE := Lib.hid hEq
    clear HX HP hP hx hc hPg hEq
    go_enter Try.func58, Try.ntmps58
    go_wp2_with fail
    go_loopw [7, 8] (fun a b wr => ∃ (k : Nat) (O : Nat → Nat), k ≤ n ∧ a = .int .i64 (k : Int) ∧ b = .int .i64 ((k : Int) + 20) ∧ OrderOf O n ∧ OrdAt wr g n O ∧ Keep g (g + 1) w wr) (fun a _ _ => n - (intOf a).toNat)
    case atStart => exact ⟨0, O0, by omega, rfl, rfl, ho, hO, Keep.refl _ _ _⟩
    case round =>
      clear ho hO
      obtain ⟨k, O, hk, rfl, rfl, ho, hO, hK⟩ := hrel
      by_cases hlt : k + 20 ≤ n
      · have l0 : (k : Int) + 20 ≤ (n : Int) := by omega
        have ki := HI.out O k (k + 20) _ hK hO ho hlt (by omega)
        rw [show ((k + 20 : Nat) : Int) = (k : Int) + 20 by omega] at ki
        go_wp2_with fail
        refine ki.mono ?_
        rintro e w1 ⟨⟨O1, rfl, ho1, -, hO1⟩, hK1⟩
        have HF := Lib.hid (And.intro ho1 hO1)
        have hK2 := hK.trans hK1
        clear ho1 hO1 ki ho hO hK hK1
        go_wp2_with fail
        go_roundw
        case rel => exact ⟨k + 20, O1, hlt, by go_num, by first | rfl | (congr 1; omega) | go_num, HF.out.1, HF.out.2, hK2⟩
        case measure => simp [intOf]; omega
      · have l0 : ¬ (k : Int) + 20 ≤ (n : Int) := by omega
        have ki := HI.out O k n _ hK hO ho (Nat.le_refl _) (by omega)
        go_wp2_with fail
        refine ki.mono ?_
        rintro e w1 ⟨⟨O1, rfl, ho1, -, hO1⟩, hK1⟩
        have hK2 := hK.trans hK1
        clear ki ho hO hK hK1 HI
        go_wp2_with fail
        go_loopw [6, 7, 8] (fun s _ _ wr => ∃ s0 : Nat, 20 ≤ s0 ∧ s0 ≤ 200 ∧ s = .int .i64 (s0 : Int) ∧ OrdAt wr g n O1 ∧ Keep g (g + 1) w wr) (fun s _ _ _ => n - (intOf s).toNat)
        case atStart => exact ⟨20, by omega, by omega, rfl, hO1, hK2⟩
        case round =>
          clear hO1 hK2
          obtain ⟨s0, s1, s2, rfl, hO, hK⟩ := hrel
          by_cases hlt2 : s0 < n
          · have l1 : (s0 : Int) < (n : Int) := by omega
            go_wp2_with fail
            go_loopw [7, 8] (fun a b wr => ∃ q : Nat, q ≤ n ∧ a = .int .i64 (q : Int) ∧ b = .int .i64 ((q : Int) + 2 * (s0 : Int)) ∧ OrdAt wr g n O1 ∧ Keep g (g + 1) w wr) (fun a _ _ => n - (intOf a).toNat)
            case atStart => exact ⟨0, by omega, rfl, by first | rfl | (congr 1; omega), hO, hK⟩
            case round =>
              clear hO hK
              obtain ⟨q, hq, rfl, rfl, hO, hK⟩ := hrel
              by_cases hlt3 : q + 2 * s0 ≤ n
              · have l2 : (q : Int) + 2 * (s0 : Int) ≤ (n : Int) := by omega
                have km := HM.out O1 q (q + s0) (q + 2 * s0) _ hK hO ho1 (by omega) (by omega) hlt3
                rw [show ((q + s0 : Nat) : Int) = (q : Int) + (s0 : Int) by omega, show ((q + 2 * s0 : Nat) : Int) = (q : Int) + 2 * (s0 : Int) by omega] at km
                go_wp2_with fail
                refine km.mono ?_
                rintro e w3 ⟨rfl, hb⟩
                have hO3 := hO.below hb
                have hK3 := hK.thenBelow hb
                clear km hO hK hb
                go_wp2_with fail
                go_roundw
                case rel => exact ⟨q + 2 * s0, hlt3, by first | rfl | go_num | (congr 1; omega), by first | rfl | go_num | (congr 1; omega), hO3, hK3⟩
                case measure => simp [intOf]; omega
              · have l2 : ¬ (q : Int) + 2 * (s0 : Int) ≤ (n : Int) := by omega
                by_cases hlt4 : q + s0 < n
                · have l3 : (q : Int) + (s0 : Int) < (n : Int) := by omega
                  have km := HM.out O1 q (q + s0) n _ hK hO ho1 (by omega) hlt4 (Nat.le_refl _)
                  rw [show ((q + s0 : Nat) : Int) = (q : Int) + (s0 : Int) by omega] at km
                  go_wp2_with fail
                  refine km.mono ?_
                  rintro e w3 ⟨rfl, hb⟩
                  have hO3 := hO.below hb
                  have hK3 := hK.thenBelow hb
                  clear km hO hK hb
                  go_wp2_with fail
                  go_roundw
                  case rel => exact ⟨s0 * 2, by omega, by omega, by first | go_num | (congr 1; omega), hO3, hK3⟩
                  case measure => simp [intOf]; omega
                · have l3 : ¬ (q : Int) + (s0 : Int) < (n : Int) := by omega
                  go_wp2_with fail
                  go_roundw
                  case rel => exact ⟨s0 * 2, by omega, by omega, by first | go_num | (congr 1; omega), hO, hK⟩
                  case measure => simp [intOf]; omega
          · have l1 : ¬ (s0 : Int) < (n : Int) := by omega
            go_wp2_with fail
            go_returns
            exact ⟨rfl, ⟨O1, ho1, fun i j h1 h2 => by rw [HE.out (O1 i) (O1 j) (ho1.lt i (by omega)) (ho1.lt j h2)]; exact Int.le_refl _, hO⟩, hK⟩
theorem sort_stableF (g n c : Nat) (O0 : Nat → Nat) (P : Nat → Int) (bx : Nat) (aP : Option Addr) (cP : Nat) (w : World) (hO : OrdAt w g n O0) (ho : OrderOf O0 n)
    (hx : w.cell? ⟨bx, 0, none⟩ = some (.slice aP n cP)) (hlx : bx < w.heap.size) (hbx : bx ≠ g) (hP : IntsAt w aP n P) (hPg : 0 < n → ∀ b o, aP = some ⟨b, o, none⟩ → b ≠ g) (hn : n ≤ 100) (hg : g < w.heap.size)
    (hc : n ≤ 19 ∨ ∀ i j, i < n → j < n → P i = P j) :
    Calls Try.prog 46 #[.slice (some ⟨g, 0, none⟩) n c, .func (.func 47) #[] #[.pointer (some ⟨bx, 0, none⟩)]] w
      fun e w' => e = .returned (.tuple #[]) ∧ SortRes P n w' g ∧ Keep g (g + 1) w w' := by
  have ks := sort_stable g n c O0 P bx aP cP w hO ho hx hlx hbx hP hPg hn hg hc
  clear hO ho hx hP hPg hc
  go_enter Try.func46, Try.ntmps46
  go_wp2_with fail
  refine ks.mono ?_
  rintro e w1 ⟨rfl, hS, hK⟩
  clear ks
  go_wp2_with fail
  go_returns
  exact ⟨rfl, hS, hK⟩

end Go.Proofs.Ytejhngkbkcalaaa
