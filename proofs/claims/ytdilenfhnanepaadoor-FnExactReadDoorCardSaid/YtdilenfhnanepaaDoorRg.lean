/-
  Contracts: doors read.
-/
import Derived.Test.YtdilenfhnanepaaDoorRd
namespace Go.Proofs.YtdilenfhnanepaaDoor
open Go.RowKit
set_option linter.unusedVariables false
set_option linter.unusedSimpArgs false


theorem ba_eq' {a b : ByteArray} (h : a = b) : (a.toList == b.toList) = true := by rw [h]; simp
/-- No valid door ahead of (P, K, R) has the text. -/
def SeenD (s : ByteArray) (P K R : Int) : Prop := ∀ p k r, validDoor p k r = true → (p < P ∨ (p = P ∧ (k < K ∨ (k = K ∧ r < R)))) → doorTx p k r ≠ s
theorem SeenD.start (s : ByteArray) : SeenD s 0 0 0 := fun p k r hv h => by
  have a := validDoor_p hv
  have b := validDoor_bd' hv
  omega
theorem SeenD.next {s : ByteArray} {P K R : Int} (h : SeenD s P K R) (hn : validDoor P K R = true → doorTx P K R ≠ s) : SeenD s P K (R + 1) := fun p k r hv hb => by
  by_cases h1 : p < P ∨ (p = P ∧ (k < K ∨ (k = K ∧ r < R)))
  · exact h p k r hv h1
  · obtain ⟨rfl, rfl, rfl⟩ : p = P ∧ k = K ∧ r = R := by omega
    exact hn hv
theorem SeenD.row {s : ByteArray} {P K : Int} (h : SeenD s P K 4) : SeenD s P (K + 1) 0 := fun p k r hv hb => h p k r hv (by have b := validDoor_bd' hv; omega)
theorem SeenD.page {s : ByteArray} {P : Int} (h : SeenD s P 3 0) : SeenD s (P + 1) 0 0 := fun p k r hv hb => h p k r hv (by have b := validDoor_bd' hv; omega)
theorem SeenD.all {s : ByteArray} (h : SeenD s 4 0 0) : ∀ p k r, validDoor p k r = true → doorTx p k r ≠ s := fun p k r hv => h p k r hv (by have a := validDoor_p hv; omega)
set_option maxHeartbeats 4000000 in
theorem impl_ReadDoor (s : ByteArray) (p k r : Int) (ok : Bool) (w : World) (hs : s.size ≤ 1048576) (hp : DoorIs s p k r ok) (hT : PowAt w) :
    Calls Tryd.prog 8 #[.string s] w fun e w' => e = .returned (.tuple #[.agg #[.int .i64 p, .int .i64 k, .int .i64 r], .bool ok]) ∧ Below w.heap.size w w' := by
  have HHit := Lib.hid (fun P K R h1 h2 => door_hit (p' := P) (k' := K) (r' := R) hp h1 h2)
  have HNone := Lib.hid (fun h => door_none hp h)
  have HS0 := Lib.hid (SeenD.start s)
  clear hp
  go_enter Tryd.func8, Tryd.ntmps8
  go_wp2
  (have F0 : (w.alloc (Obj.cells #[.int .i64 0, .int .i64 0, .int .i64 0] 23)).frozen? ⟨w.heap.size, 0, none⟩ = false := (by go_simp); have Q0 : (w.alloc (Obj.cells #[.int .i64 0, .int .i64 0, .int .i64 0] 23)).cell? ⟨w.heap.size, 0, none⟩ = some (.int .i64 0) := (by go_simp); have F1 : (w.alloc (Obj.cells #[.int .i64 0, .int .i64 0, .int .i64 0] 23)).frozen? ⟨w.heap.size, 1, none⟩ = false := (by go_simp); have Q1 : (w.alloc (Obj.cells #[.int .i64 0, .int .i64 0, .int .i64 0] 23)).cell? ⟨w.heap.size, 1, none⟩ = some (.int .i64 0) := (by go_simp); have F2 : (w.alloc (Obj.cells #[.int .i64 0, .int .i64 0, .int .i64 0] 23)).frozen? ⟨w.heap.size, 2, none⟩ = false := (by go_simp); have Q2 : (w.alloc (Obj.cells #[.int .i64 0, .int .i64 0, .int .i64 0] 23)).cell? ⟨w.heap.size, 2, none⟩ = some (.int .i64 0) := (by go_simp); have Z3 : w.heap.size < (w.alloc (Obj.cells #[.int .i64 0, .int .i64 0, .int .i64 0] 23)).heap.size := (by first | omega | (simp; done) | (simp; omega)); have BB : Below w.heap.size w (w.alloc (Obj.cells #[.int .i64 0, .int .i64 0, .int .i64 0] 23)) := (by go_grown); generalize w.alloc (Obj.cells #[.int .i64 0, .int .i64 0, .int .i64 0] 23) = w2 at *)
  have hT0 := hT.below BB
  clear hT
  have HB := Lib.hid BB
  clear BB
  go_loopw [4] (fun v wr => ∃ P : Nat, P ≤ 4 ∧ v = .int .i64 P ∧ SeenD s P 0 0 ∧ Below w2.heap.size w2 wr) (fun v _ => 4 - (intOf v).toNat)
  case atStart => exact ⟨0, by omega, rfl, HS0.out, Below.refl _ _⟩
  case round =>
    obtain ⟨P, hP, rfl, hsn, hB⟩ := hrel
    have hq := hB.size
    have HSN := Lib.hid hsn
    clear hsn
    by_cases hlP : P < 4
    · have lP : (P : Int) ≤ 3 := by omega
      obtain ⟨wo, ewo⟩ : ∃ wo : World, wo = wr := ⟨_, rfl⟩
      subst ewo
      go_wp2
      go_loopw [12] (fun v wi => ∃ K : Nat, K ≤ 3 ∧ v = .int .i64 K ∧ SeenD s P K 0 ∧ Below w2.heap.size w2 wi) (fun v _ => 3 - (intOf v).toNat)
      case atStart => exact ⟨0, by omega, rfl, HSN.out, hB⟩
      case round =>
        clear hB hq HSN
        obtain ⟨K, hK, rfl, hsn, hB⟩ := hrel
        have hq := hB.size
        have HSN := Lib.hid hsn
        clear hsn
        by_cases hlK : K < 3
        · have lK : (K : Int) < 3 := by omega
          obtain ⟨wo2, ewo2⟩ : ∃ wo : World, wo = wr := ⟨_, rfl⟩
          subst ewo2
          go_wp2
          go_loopw [15] (fun v wi => ∃ R : Nat, R ≤ 4 ∧ v = .int .i64 R ∧ SeenD s P K R ∧ Below w2.heap.size w2 wi) (fun v _ => 4 - (intOf v).toNat)
          case atStart => exact ⟨0, by omega, rfl, HSN.out, hB⟩
          case round =>
            clear hB hq HSN
            obtain ⟨R, hR, rfl, hsn, hB⟩ := hrel
            have hq := hB.size
            have HSN := Lib.hid hsn
            clear hsn
            by_cases hlR : R < 4
            · have lR : (R : Int) < 4 := by omega
              have kv := fun W => impl_ValidDoor P K R W
              have kt := fun W h => impl_DoorText P K R W h
              have HN := Lib.hid (fun hn => (HSN.out).next hn)
              have HH := Lib.hid (fun h1 h2 => HHit.out P K R h1 h2)
              have s0 := (hB.cell (p := ⟨w.heap.size, 0, none⟩) Z3).trans Q0
              have s1 := (hB.cell (p := ⟨w.heap.size, 1, none⟩) Z3).trans Q1
              have s2 := (hB.cell (p := ⟨w.heap.size, 2, none⟩) Z3).trans Q2
              have f0 := (hB.frozen (p := ⟨w.heap.size, 0, none⟩) Z3).trans F0
              have f1 := (hB.frozen (p := ⟨w.heap.size, 1, none⟩) Z3).trans F1
              have f2 := (hB.frozen (p := ⟨w.heap.size, 2, none⟩) Z3).trans F2
              have y0 : w.heap.size < wr.heap.size := by omega
              clear HHit HSN HNone
              cases hv : validDoor P K R
              · have HN2 := Lib.hid (HN.out (fun h => by rw [hv] at h; cases h))
                rw [hv] at kv
                clear hv HN HH kt
                go_wp2_with fail
                with_reducible refine (kv _).mono ?_
                rintro e wa ⟨rfl, hba⟩
                have za1 : wr.heap.size < wa.heap.size := Nat.lt_of_lt_of_le (by first | omega | (simp; done) | (simp [World.setCell]; done) | (simp; omega) | (simp [World.setCell]; omega)) hba.size
                have ya1 : w.heap.size < wa.heap.size := by omega
                have qa0 : wa.cell? ⟨wr.heap.size, 0, none⟩ = some (.int .i64 P) := (hba.cell (p := ⟨wr.heap.size, 0, none⟩) (by first | omega | (simp; done) | (simp [World.setCell]; done) | (simp; omega) | (simp [World.setCell]; omega))).trans (by go_cell)
                have qa1 : wa.cell? ⟨wr.heap.size, 1, none⟩ = some (.int .i64 K) := (hba.cell (p := ⟨wr.heap.size, 1, none⟩) (by first | omega | (simp; done) | (simp [World.setCell]; done) | (simp; omega) | (simp [World.setCell]; omega))).trans (by go_cell)
                have qa2 : wa.cell? ⟨wr.heap.size, 2, none⟩ = some (.int .i64 R) := (hba.cell (p := ⟨wr.heap.size, 2, none⟩) (by first | omega | (simp; done) | (simp [World.setCell]; done) | (simp; omega) | (simp [World.setCell]; omega))).trans (by go_cell)
                have sa0 : wa.cell? ⟨w.heap.size, 0, none⟩ = some (.int .i64 0) := (hba.cell (p := ⟨w.heap.size, 0, none⟩) (by first | omega | (simp; done) | (simp [World.setCell]; done) | (simp; omega) | (simp [World.setCell]; omega))).trans (by go_cell)
                have sa1 : wa.cell? ⟨w.heap.size, 1, none⟩ = some (.int .i64 0) := (hba.cell (p := ⟨w.heap.size, 1, none⟩) (by first | omega | (simp; done) | (simp [World.setCell]; done) | (simp; omega) | (simp [World.setCell]; omega))).trans (by go_cell)
                have sa2 : wa.cell? ⟨w.heap.size, 2, none⟩ = some (.int .i64 0) := (hba.cell (p := ⟨w.heap.size, 2, none⟩) (by first | omega | (simp; done) | (simp [World.setCell]; done) | (simp; omega) | (simp [World.setCell]; omega))).trans (by go_cell)
                have fa0 : wa.frozen? ⟨w.heap.size, 0, none⟩ = false := (hba.frozen (p := ⟨w.heap.size, 0, none⟩) (by first | omega | (simp; done) | (simp [World.setCell]; done) | (simp; omega) | (simp [World.setCell]; omega))).trans (by go_simp)
                have fa1 : wa.frozen? ⟨w.heap.size, 1, none⟩ = false := (hba.frozen (p := ⟨w.heap.size, 1, none⟩) (by first | omega | (simp; done) | (simp [World.setCell]; done) | (simp; omega) | (simp [World.setCell]; omega))).trans (by go_simp)
                have fa2 : wa.frozen? ⟨w.heap.size, 2, none⟩ = false := (hba.frozen (p := ⟨w.heap.size, 2, none⟩) (by first | omega | (simp; done) | (simp [World.setCell]; done) | (simp; omega) | (simp [World.setCell]; omega))).trans (by go_simp)
                have hBa : Below w2.heap.size w2 wa := Below.trans (by first | go_grown | (repeat (first | exact hB | refine Below.alloc ?_ (by simp [World.setCell]; omega) _ | refine below_set ?_ (by omega)))) (hba.mono (by first | go_size | (simp; omega)))
                clear hba s0 s1 s2 f0 f1 f2
                go_wp2_with fail
                go_roundw
                case rel => exact ⟨R + 1, by omega, by go_num, by exact HN2.out, by first | exact hBa | assumption⟩
                case measure => simp [intOf]; omega
              · rw [hv] at kv
                have hdt : doorText P K R = doorTx P K R := by unfold doorText; rw [if_pos hv]
                rw [hdt] at kt
                by_cases ht : doorTx P K R = s
                · obtain ⟨rfl, rfl, rfl, rfl⟩ := HH.out hv ht
                  have he := ba_eq' ht
                  clear hv ht HH HN hdt
                  generalize doorTx P K R = T at *
                  go_wp2_with fail
                  with_reducible refine (kv _).mono ?_
                  rintro e wa ⟨rfl, hba⟩
                  have za1 : wr.heap.size < wa.heap.size := Nat.lt_of_lt_of_le (by first | omega | (simp; done) | (simp [World.setCell]; done) | (simp; omega) | (simp [World.setCell]; omega)) hba.size
                  have ya1 : w.heap.size < wa.heap.size := by omega
                  have qa0 : wa.cell? ⟨wr.heap.size, 0, none⟩ = some (.int .i64 P) := (hba.cell (p := ⟨wr.heap.size, 0, none⟩) (by first | omega | (simp; done) | (simp [World.setCell]; done) | (simp; omega) | (simp [World.setCell]; omega))).trans (by go_cell)
                  have qa1 : wa.cell? ⟨wr.heap.size, 1, none⟩ = some (.int .i64 K) := (hba.cell (p := ⟨wr.heap.size, 1, none⟩) (by first | omega | (simp; done) | (simp [World.setCell]; done) | (simp; omega) | (simp [World.setCell]; omega))).trans (by go_cell)
                  have qa2 : wa.cell? ⟨wr.heap.size, 2, none⟩ = some (.int .i64 R) := (hba.cell (p := ⟨wr.heap.size, 2, none⟩) (by first | omega | (simp; done) | (simp [World.setCell]; done) | (simp; omega) | (simp [World.setCell]; omega))).trans (by go_cell)
                  have sa0 : wa.cell? ⟨w.heap.size, 0, none⟩ = some (.int .i64 0) := (hba.cell (p := ⟨w.heap.size, 0, none⟩) (by first | omega | (simp; done) | (simp [World.setCell]; done) | (simp; omega) | (simp [World.setCell]; omega))).trans (by go_cell)
                  have sa1 : wa.cell? ⟨w.heap.size, 1, none⟩ = some (.int .i64 0) := (hba.cell (p := ⟨w.heap.size, 1, none⟩) (by first | omega | (simp; done) | (simp [World.setCell]; done) | (simp; omega) | (simp [World.setCell]; omega))).trans (by go_cell)
                  have sa2 : wa.cell? ⟨w.heap.size, 2, none⟩ = some (.int .i64 0) := (hba.cell (p := ⟨w.heap.size, 2, none⟩) (by first | omega | (simp; done) | (simp [World.setCell]; done) | (simp; omega) | (simp [World.setCell]; omega))).trans (by go_cell)
                  have fa0 : wa.frozen? ⟨w.heap.size, 0, none⟩ = false := (hba.frozen (p := ⟨w.heap.size, 0, none⟩) (by first | omega | (simp; done) | (simp [World.setCell]; done) | (simp; omega) | (simp [World.setCell]; omega))).trans (by go_simp)
                  have fa1 : wa.frozen? ⟨w.heap.size, 1, none⟩ = false := (hba.frozen (p := ⟨w.heap.size, 1, none⟩) (by first | omega | (simp; done) | (simp [World.setCell]; done) | (simp; omega) | (simp [World.setCell]; omega))).trans (by go_simp)
                  have fa2 : wa.frozen? ⟨w.heap.size, 2, none⟩ = false := (hba.frozen (p := ⟨w.heap.size, 2, none⟩) (by first | omega | (simp; done) | (simp [World.setCell]; done) | (simp; omega) | (simp [World.setCell]; omega))).trans (by go_simp)
                  have hBa : Below w2.heap.size w2 wa := Below.trans (by first | go_grown | (repeat (first | exact hB | refine Below.alloc ?_ (by simp [World.setCell]; omega) _ | refine below_set ?_ (by omega)))) (hba.mono (by first | go_size | (simp; omega)))
                  clear hba s0 s1 s2 f0 f1 f2
                  go_wp2_with fail
                  with_reducible refine (kt _ (hT0.below (by first | go_grown | (repeat (first | exact hBa | refine Below.alloc ?_ (by simp [World.setCell]; omega) _ | refine below_set ?_ (by omega)))))).mono ?_
                  rintro e wb ⟨rfl, hbb⟩
                  have zb1 : wr.heap.size < wb.heap.size := Nat.lt_of_lt_of_le (by first | omega | (simp; done) | (simp [World.setCell]; done) | (simp; omega) | (simp [World.setCell]; omega)) hbb.size
                  have yb1 : w.heap.size < wb.heap.size := by omega
                  have qb0 : wb.cell? ⟨wr.heap.size, 0, none⟩ = some (.int .i64 P) := (hbb.cell (p := ⟨wr.heap.size, 0, none⟩) (by first | omega | (simp; done) | (simp [World.setCell]; done) | (simp; omega) | (simp [World.setCell]; omega))).trans (by go_cell)
                  have qb1 : wb.cell? ⟨wr.heap.size, 1, none⟩ = some (.int .i64 K) := (hbb.cell (p := ⟨wr.heap.size, 1, none⟩) (by first | omega | (simp; done) | (simp [World.setCell]; done) | (simp; omega) | (simp [World.setCell]; omega))).trans (by go_cell)
                  have qb2 : wb.cell? ⟨wr.heap.size, 2, none⟩ = some (.int .i64 R) := (hbb.cell (p := ⟨wr.heap.size, 2, none⟩) (by first | omega | (simp; done) | (simp [World.setCell]; done) | (simp; omega) | (simp [World.setCell]; omega))).trans (by go_cell)
                  have sb0 : wb.cell? ⟨w.heap.size, 0, none⟩ = some (.int .i64 0) := (hbb.cell (p := ⟨w.heap.size, 0, none⟩) (by first | omega | (simp; done) | (simp [World.setCell]; done) | (simp; omega) | (simp [World.setCell]; omega))).trans (by go_cell)
                  have sb1 : wb.cell? ⟨w.heap.size, 1, none⟩ = some (.int .i64 0) := (hbb.cell (p := ⟨w.heap.size, 1, none⟩) (by first | omega | (simp; done) | (simp [World.setCell]; done) | (simp; omega) | (simp [World.setCell]; omega))).trans (by go_cell)
                  have sb2 : wb.cell? ⟨w.heap.size, 2, none⟩ = some (.int .i64 0) := (hbb.cell (p := ⟨w.heap.size, 2, none⟩) (by first | omega | (simp; done) | (simp [World.setCell]; done) | (simp; omega) | (simp [World.setCell]; omega))).trans (by go_cell)
                  have fb0 : wb.frozen? ⟨w.heap.size, 0, none⟩ = false := (hbb.frozen (p := ⟨w.heap.size, 0, none⟩) (by first | omega | (simp; done) | (simp [World.setCell]; done) | (simp; omega) | (simp [World.setCell]; omega))).trans (by go_simp)
                  have fb1 : wb.frozen? ⟨w.heap.size, 1, none⟩ = false := (hbb.frozen (p := ⟨w.heap.size, 1, none⟩) (by first | omega | (simp; done) | (simp [World.setCell]; done) | (simp; omega) | (simp [World.setCell]; omega))).trans (by go_simp)
                  have fb2 : wb.frozen? ⟨w.heap.size, 2, none⟩ = false := (hbb.frozen (p := ⟨w.heap.size, 2, none⟩) (by first | omega | (simp; done) | (simp [World.setCell]; done) | (simp; omega) | (simp [World.setCell]; omega))).trans (by go_simp)
                  have hBb : Below w2.heap.size w2 wb := Below.trans (by first | go_grown | (repeat (first | exact hBa | refine Below.alloc ?_ (by simp [World.setCell]; omega) _ | refine below_set ?_ (by omega)))) (hbb.mono (by first | go_size | (simp; omega)))
                  clear hbb qa0 qa1 qa2 sa0 sa1 sa2 fa0 fa1 fa2
                  go_wp2_with fail
                  refine bodyPost_ret (by simp [results, Tryd.results8, go_sem, *]; try rfl) rfl ?_
                  refine ⟨rfl, ?_⟩
                  have hBw := HB.out.trans (hBb.mono HB.out.size)
                  first | go_grown | (repeat (first | exact hBw | refine Below.alloc ?_ (by simp [World.setCell]; omega) _ | refine below_set ?_ (by omega)))
                · have HN2 := Lib.hid (HN.out (fun _ => ht))
                  have he := ba_ne ht
                  clear hv ht HH HN hdt
                  generalize doorTx P K R = T at *
                  go_wp2_with fail
                  with_reducible refine (kv _).mono ?_
                  rintro e wa ⟨rfl, hba⟩
                  have za1 : wr.heap.size < wa.heap.size := Nat.lt_of_lt_of_le (by first | omega | (simp; done) | (simp [World.setCell]; done) | (simp; omega) | (simp [World.setCell]; omega)) hba.size
                  have ya1 : w.heap.size < wa.heap.size := by omega
                  have qa0 : wa.cell? ⟨wr.heap.size, 0, none⟩ = some (.int .i64 P) := (hba.cell (p := ⟨wr.heap.size, 0, none⟩) (by first | omega | (simp; done) | (simp [World.setCell]; done) | (simp; omega) | (simp [World.setCell]; omega))).trans (by go_cell)
                  have qa1 : wa.cell? ⟨wr.heap.size, 1, none⟩ = some (.int .i64 K) := (hba.cell (p := ⟨wr.heap.size, 1, none⟩) (by first | omega | (simp; done) | (simp [World.setCell]; done) | (simp; omega) | (simp [World.setCell]; omega))).trans (by go_cell)
                  have qa2 : wa.cell? ⟨wr.heap.size, 2, none⟩ = some (.int .i64 R) := (hba.cell (p := ⟨wr.heap.size, 2, none⟩) (by first | omega | (simp; done) | (simp [World.setCell]; done) | (simp; omega) | (simp [World.setCell]; omega))).trans (by go_cell)
                  have sa0 : wa.cell? ⟨w.heap.size, 0, none⟩ = some (.int .i64 0) := (hba.cell (p := ⟨w.heap.size, 0, none⟩) (by first | omega | (simp; done) | (simp [World.setCell]; done) | (simp; omega) | (simp [World.setCell]; omega))).trans (by go_cell)
                  have sa1 : wa.cell? ⟨w.heap.size, 1, none⟩ = some (.int .i64 0) := (hba.cell (p := ⟨w.heap.size, 1, none⟩) (by first | omega | (simp; done) | (simp [World.setCell]; done) | (simp; omega) | (simp [World.setCell]; omega))).trans (by go_cell)
                  have sa2 : wa.cell? ⟨w.heap.size, 2, none⟩ = some (.int .i64 0) := (hba.cell (p := ⟨w.heap.size, 2, none⟩) (by first | omega | (simp; done) | (simp [World.setCell]; done) | (simp; omega) | (simp [World.setCell]; omega))).trans (by go_cell)
                  have fa0 : wa.frozen? ⟨w.heap.size, 0, none⟩ = false := (hba.frozen (p := ⟨w.heap.size, 0, none⟩) (by first | omega | (simp; done) | (simp [World.setCell]; done) | (simp; omega) | (simp [World.setCell]; omega))).trans (by go_simp)
                  have fa1 : wa.frozen? ⟨w.heap.size, 1, none⟩ = false := (hba.frozen (p := ⟨w.heap.size, 1, none⟩) (by first | omega | (simp; done) | (simp [World.setCell]; done) | (simp; omega) | (simp [World.setCell]; omega))).trans (by go_simp)
                  have fa2 : wa.frozen? ⟨w.heap.size, 2, none⟩ = false := (hba.frozen (p := ⟨w.heap.size, 2, none⟩) (by first | omega | (simp; done) | (simp [World.setCell]; done) | (simp; omega) | (simp [World.setCell]; omega))).trans (by go_simp)
                  have hBa : Below w2.heap.size w2 wa := Below.trans (by first | go_grown | (repeat (first | exact hB | refine Below.alloc ?_ (by simp [World.setCell]; omega) _ | refine below_set ?_ (by omega)))) (hba.mono (by first | go_size | (simp; omega)))
                  clear hba s0 s1 s2 f0 f1 f2
                  go_wp2_with fail
                  with_reducible refine (kt _ (hT0.below (by first | go_grown | (repeat (first | exact hBa | refine Below.alloc ?_ (by simp [World.setCell]; omega) _ | refine below_set ?_ (by omega)))))).mono ?_
                  rintro e wb ⟨rfl, hbb⟩
                  have zb1 : wr.heap.size < wb.heap.size := Nat.lt_of_lt_of_le (by first | omega | (simp; done) | (simp [World.setCell]; done) | (simp; omega) | (simp [World.setCell]; omega)) hbb.size
                  have yb1 : w.heap.size < wb.heap.size := by omega
                  have qb0 : wb.cell? ⟨wr.heap.size, 0, none⟩ = some (.int .i64 P) := (hbb.cell (p := ⟨wr.heap.size, 0, none⟩) (by first | omega | (simp; done) | (simp [World.setCell]; done) | (simp; omega) | (simp [World.setCell]; omega))).trans (by go_cell)
                  have qb1 : wb.cell? ⟨wr.heap.size, 1, none⟩ = some (.int .i64 K) := (hbb.cell (p := ⟨wr.heap.size, 1, none⟩) (by first | omega | (simp; done) | (simp [World.setCell]; done) | (simp; omega) | (simp [World.setCell]; omega))).trans (by go_cell)
                  have qb2 : wb.cell? ⟨wr.heap.size, 2, none⟩ = some (.int .i64 R) := (hbb.cell (p := ⟨wr.heap.size, 2, none⟩) (by first | omega | (simp; done) | (simp [World.setCell]; done) | (simp; omega) | (simp [World.setCell]; omega))).trans (by go_cell)
                  have sb0 : wb.cell? ⟨w.heap.size, 0, none⟩ = some (.int .i64 0) := (hbb.cell (p := ⟨w.heap.size, 0, none⟩) (by first | omega | (simp; done) | (simp [World.setCell]; done) | (simp; omega) | (simp [World.setCell]; omega))).trans (by go_cell)
                  have sb1 : wb.cell? ⟨w.heap.size, 1, none⟩ = some (.int .i64 0) := (hbb.cell (p := ⟨w.heap.size, 1, none⟩) (by first | omega | (simp; done) | (simp [World.setCell]; done) | (simp; omega) | (simp [World.setCell]; omega))).trans (by go_cell)
                  have sb2 : wb.cell? ⟨w.heap.size, 2, none⟩ = some (.int .i64 0) := (hbb.cell (p := ⟨w.heap.size, 2, none⟩) (by first | omega | (simp; done) | (simp [World.setCell]; done) | (simp; omega) | (simp [World.setCell]; omega))).trans (by go_cell)
                  have fb0 : wb.frozen? ⟨w.heap.size, 0, none⟩ = false := (hbb.frozen (p := ⟨w.heap.size, 0, none⟩) (by first | omega | (simp; done) | (simp [World.setCell]; done) | (simp; omega) | (simp [World.setCell]; omega))).trans (by go_simp)
                  have fb1 : wb.frozen? ⟨w.heap.size, 1, none⟩ = false := (hbb.frozen (p := ⟨w.heap.size, 1, none⟩) (by first | omega | (simp; done) | (simp [World.setCell]; done) | (simp; omega) | (simp [World.setCell]; omega))).trans (by go_simp)
                  have fb2 : wb.frozen? ⟨w.heap.size, 2, none⟩ = false := (hbb.frozen (p := ⟨w.heap.size, 2, none⟩) (by first | omega | (simp; done) | (simp [World.setCell]; done) | (simp; omega) | (simp [World.setCell]; omega))).trans (by go_simp)
                  have hBb : Below w2.heap.size w2 wb := Below.trans (by first | go_grown | (repeat (first | exact hBa | refine Below.alloc ?_ (by simp [World.setCell]; omega) _ | refine below_set ?_ (by omega)))) (hbb.mono (by first | go_size | (simp; omega)))
                  clear hbb qa0 qa1 qa2 sa0 sa1 sa2 fa0 fa1 fa2
                  go_wp2_with fail
                  go_roundw
                  case rel => exact ⟨R + 1, by omega, by go_num, by exact HN2.out, hBb⟩
                  case measure => simp [intOf]; omega
            · obtain rfl : R = 4 := by omega
              have HR := Lib.hid ((HSN.out).row)
              go_wp2
              go_roundw
              case rel => exact ⟨K + 1, by omega, by go_num, HR.out, hB⟩
              case measure => simp [intOf]; omega
        · obtain rfl : K = 3 := by omega
          have HR := Lib.hid ((HSN.out).page)
          go_wp2
          go_roundw
          case rel => exact ⟨P + 1, by omega, by go_num, HR.out, hB⟩
          case measure => simp [intOf]; omega
    · obtain rfl : P = 4 := by omega
      obtain ⟨rfl, rfl, rfl, rfl⟩ := HNone.out ((HSN.out).all)
      have s0 := (hB.cell (p := ⟨w.heap.size, 0, none⟩) Z3).trans Q0
      have s1 := (hB.cell (p := ⟨w.heap.size, 1, none⟩) Z3).trans Q1
      have s2 := (hB.cell (p := ⟨w.heap.size, 2, none⟩) Z3).trans Q2
      have f0 := (hB.frozen (p := ⟨w.heap.size, 0, none⟩) Z3).trans F0
      have f1 := (hB.frozen (p := ⟨w.heap.size, 1, none⟩) Z3).trans F1
      have f2 := (hB.frozen (p := ⟨w.heap.size, 2, none⟩) Z3).trans F2
      have y0 : w.heap.size < wr.heap.size := by omega
      go_wp2
      refine bodyPost_ret (by simp [results, Tryd.results8, go_sem, *]; try rfl) rfl ?_
      refine ⟨rfl, ?_⟩
      have hBw := HB.out.trans (hB.mono HB.out.size)
      first | go_grown | (repeat (first | exact hBw | refine Below.alloc ?_ (by simp [World.setCell]; omega) _ | refine below_set ?_ (by omega)))

/-- The place whose name is x, among the first P; -1 if there is none. -/
def dplace (x : ByteArray) : Nat → Int
  | 0 => -1
  | P + 1 => if doorName P = x then P else dplace x P
theorem dplace_bd (x : ByteArray) : ∀ P, -1 ≤ dplace x P ∧ dplace x P < P ∧ (0 ≤ dplace x P → doorName (dplace x P) = x)
  | 0 => by simp [dplace]
  | P + 1 => by
    obtain ⟨a, b, c⟩ := dplace_bd x P
    unfold dplace
    split
    · rename_i h; exact ⟨by omega, by omega, fun _ => h⟩
    · exact ⟨a, by omega, c⟩
theorem dplace_of {x : ByteArray} {p : Int} (h0 : 0 ≤ p) (h1 : p ≤ 3) (h : doorName p = x) : ∀ P : Nat, p < (P : Int) → P ≤ 4 → dplace x P = p
  | 0, hP, _ => by omega
  | P + 1, hP, h4 => by
    unfold dplace
    by_cases e : doorName P = x
    · rw [if_pos e]; exact doorName_inj (by omega) (by omega) h0 h1 (e.trans h.symm)
    · rw [if_neg e]
      have : p ≠ P := fun e2 => e (by rw [← e2]; exact h)
      exact dplace_of h0 h1 h P (by omega) (by omega)
theorem three_of {L : List ByteArray} (h : L.length = 3) : ∃ x y z, L = [x, y, z] := by
  match L, h with
  | [x, y, z], _ => exact ⟨x, y, z, rfl⟩
theorem three_size {s x y z : ByteArray} {c : UInt8} (h : splitL s (c.toNat : Int) = [x, y, z]) : x.size ≤ s.size ∧ y.size ≤ s.size ∧ z.size ≤ s.size := by
  rw [(split_is_three h).1]; simp only [ByteArray.size_append]; omega
theorem StrsOf.three {B : Nat} {w : World} {v : Value} {x y z : ByteArray} (h : StrsOf B w v [x, y, z]) : ∃ g c, v = .slice (some ⟨g, 0, none⟩) 3 c ∧ g < w.heap.size ∧ 3 ≤ c ∧ w.cell? ⟨g, 0, none⟩ = some (.string x) ∧ w.cell? ⟨g, 1, none⟩ = some (.string y) ∧ w.cell? ⟨g, 2, none⟩ = some (.string z) := by
  obtain ⟨g, c, e, hg, hc, hcell⟩ := h.at (by simp)
  exact ⟨g, c, e, hg, hc, by simpa using hcell 0 x rfl, by simpa using hcell 1 y rfl, by simpa using hcell 2 z rfl⟩
/-- The memory while the place is looked for. -/
structure DoorSt (b X g : Nat) (x : ByteArray) (K R : Int) (W : World) (D : Int) : Prop where
  x0 : W.cell? ⟨X, 0, none⟩ = some (.int .i64 D)
  x1 : W.cell? ⟨X, 1, none⟩ = some (.int .i64 K)
  x2 : W.cell? ⟨X, 2, none⟩ = some (.int .i64 R)
  xf : W.frozen? ⟨X, 0, none⟩ = false
  r0 : W.cell? ⟨b, 0, none⟩ = some (.int .i64 0)
  r1 : W.cell? ⟨b, 1, none⟩ = some (.int .i64 0)
  r2 : W.cell? ⟨b, 2, none⟩ = some (.int .i64 0)
  f0 : W.frozen? ⟨b, 0, none⟩ = false
  f1 : W.frozen? ⟨b, 1, none⟩ = false
  f2 : W.frozen? ⟨b, 2, none⟩ = false
  gx : W.cell? ⟨g, 0, none⟩ = some (.string x)
  lX : X < W.heap.size
  lb : b < W.heap.size
  lg : g < W.heap.size
theorem DoorSt.below {b X g : Nat} {x : ByteArray} {K R D : Int} {W W' : World} (h : DoorSt b X g x K R W D) (k : Below W.heap.size W W') : DoorSt b X g x K R W' D :=
  ⟨(k.cell (p := ⟨X, 0, none⟩) h.lX).trans h.x0, (k.cell (p := ⟨X, 1, none⟩) h.lX).trans h.x1, (k.cell (p := ⟨X, 2, none⟩) h.lX).trans h.x2, (k.frozen (p := ⟨X, 0, none⟩) h.lX).trans h.xf,
   (k.cell (p := ⟨b, 0, none⟩) h.lb).trans h.r0, (k.cell (p := ⟨b, 1, none⟩) h.lb).trans h.r1, (k.cell (p := ⟨b, 2, none⟩) h.lb).trans h.r2, (k.frozen (p := ⟨b, 0, none⟩) h.lb).trans h.f0, (k.frozen (p := ⟨b, 1, none⟩) h.lb).trans h.f1, (k.frozen (p := ⟨b, 2, none⟩) h.lb).trans h.f2,
   (k.cell (p := ⟨g, 0, none⟩) h.lg).trans h.gx, Nat.lt_of_lt_of_le h.lX k.size, Nat.lt_of_lt_of_le h.lb k.size, Nat.lt_of_lt_of_le h.lg k.size⟩
theorem DoorSt.set {b X g : Nat} {x : ByteArray} {K R D : Int} {W : World} (h : DoorSt b X g x K R W D) (hb : b ≠ X) (hg : g ≠ X) (m : Int) : DoorSt b X g x K R (W.setCell ⟨X, 0, none⟩ (.int .i64 m)) m :=
  ⟨cell_same h.x0, cell_off h.x1 (by decide), cell_off h.x2 (by decide), by simpa using h.xf, cell_far h.r0 hb, cell_far h.r1 hb, cell_far h.r2 hb, by simpa using h.f0, by simpa using h.f1, by simpa using h.f2, cell_far h.gx hg, lt_set h.lX, lt_set h.lb, lt_set h.lg⟩
set_option maxHeartbeats 4000000 in
theorem spec_l14Read (s : ByteArray) (p k r : Int) (ok : Bool) (w : World) (hs : s.size ≤ 1048576) (hp : DoorIs s p k r ok) :
    Calls Tryd.prog 19 #[.string s] w fun e w' => e = .returned (.tuple #[.agg #[.int .i64 p, .int .i64 k, .int .i64 r], .bool ok]) ∧ Below w.heap.size w w' := by
  have ksp := fun W => spec_l01Split s 47 W hs
  have ko := fun g p k r W c0 c1 c2 => spec_l14Ok g 0 p k r W c0 c1 c2
  have kn := fun (P : Int) W => spec_DoorName P W
  by_cases hlen : (splitL s 47).length = 3
  · obtain ⟨x, y, z, hpq⟩ := three_of hlen
    have hz := three_size (c := 47) hpq
    rw [hpq] at ksp
    have kp := fun W => spec_l01Number y W (by omega)
    have kq := fun W => spec_l01Number z W (by omega)
    have hd := dplace_bd x 4
    have HY := Lib.hid (fun h1 h2 (h3 : validDoor (dplace x 4) (numR y) (numR z) = true) => door_spec hp hpq (hd.2.2 (validDoor_p h3).1) h1 h2 h3)
    have HN := Lib.hid (fun (h : numOk y = true → numOk z = true → validDoor (dplace x 4) (numR y) (numR z) = true → False) => door_spec_no hp (fun x' y' z' P e h0 h1 h2 h3 => by
      rw [hpq] at e
      obtain ⟨rfl, e2⟩ := List.cons.inj e
      obtain ⟨rfl, e3⟩ := List.cons.inj e2
      obtain ⟨rfl, _⟩ := List.cons.inj e3
      have a := validDoor_p h3
      rw [← dplace_of a.1 a.2 h0 4 (by omega) (by omega)] at h3
      exact h h1 h2 h3))
    clear hp hpq hlen hz
    go_enter Tryd.func19, Tryd.ntmps19
    go_wp2_with fail
    refine (ksp _).mono ?_
    rintro e w1 ⟨v, rfl, hS, hb⟩
    obtain ⟨g, c, rfl, hg, hc2, c0, c1, c2⟩ := hS.three
    obtain ⟨hc, hf, hsx⟩ := bkeep hb
    have z0 : w.heap.size < w1.heap.size := hsx _ (by simp)
    have h2 : (w.alloc (Obj.cells #[.int .i64 0, .int .i64 0, .int .i64 0] 23)).cell? ⟨w.heap.size, 0, none⟩ = some (.int .i64 0) := by go_cell
    have hgw : w.heap.size ≠ g := fun e => by
      subst e
      have h3 := (hb.cell (p := ⟨w.heap.size, 0, none⟩) (by simp)).symm.trans c0
      rw [h2] at h3; cases h3
    clear h2
    have hB : Below w.heap.size w w1 := Below.trans (by go_grown) (hb.mono (by go_size))
    clear hS hb ksp
    go_wp2_with (first | (go_at_call 34; (with_reducible refine (kp _).mono ?_); rintro e w' ⟨rfl, hb⟩; obtain ⟨hc, hf, hs⟩ := bkeep hb; have hz : w.heap.size < w'.heap.size := (by have := hb.size; (try simp at this); omega); have hB : Below w.heap.size w w' := Below.trans (by go_grown) (hb.mono (by go_size))) | (go_at_call 34; (with_reducible refine (kq _).mono ?_); rintro e w' ⟨rfl, hb⟩; obtain ⟨hc, hf, hs⟩ := bkeep hb; have hz : w.heap.size < w'.heap.size := (by have := hb.size; (try simp at this); omega); have hB : Below w.heap.size w w' := Below.trans (by go_grown) (hb.mono (by go_size))))
    have hgX : g < w'.heap.size := hs _ (‹∀ (b : Nat), b < w1.heap.size → b < _› _ hg)
    (have F0 : (w'.alloc (Obj.cells #[.int .i64 (-1), .int .i64 (numR y), .int .i64 (numR z)] 23)).frozen? ⟨w'.heap.size, 0, none⟩ = false := (by go_simp); have Q0 : (w'.alloc (Obj.cells #[.int .i64 (-1), .int .i64 (numR y), .int .i64 (numR z)] 23)).cell? ⟨w'.heap.size, 0, none⟩ = some (.int .i64 (-1)) := (by go_simp); have Q1 : (w'.alloc (Obj.cells #[.int .i64 (-1), .int .i64 (numR y), .int .i64 (numR z)] 23)).cell? ⟨w'.heap.size, 1, none⟩ = some (.int .i64 (numR y)) := (by go_simp); have Q2 : (w'.alloc (Obj.cells #[.int .i64 (-1), .int .i64 (numR y), .int .i64 (numR z)] 23)).cell? ⟨w'.heap.size, 2, none⟩ = some (.int .i64 (numR z)) := (by go_simp); have Z3 : w'.heap.size < (w'.alloc (Obj.cells #[.int .i64 (-1), .int .i64 (numR y), .int .i64 (numR z)] 23)).heap.size := (by first | omega | (simp; done) | (simp; omega)); have F3 : (w'.alloc (Obj.cells #[.int .i64 (-1), .int .i64 (numR y), .int .i64 (numR z)] 23)).frozen? ⟨w.heap.size, 0, none⟩ = false := (by go_simp); have Q3 : (w'.alloc (Obj.cells #[.int .i64 (-1), .int .i64 (numR y), .int .i64 (numR z)] 23)).cell? ⟨w.heap.size, 0, none⟩ = some (.int .i64 0) := (by go_simp); have F4 : (w'.alloc (Obj.cells #[.int .i64 (-1), .int .i64 (numR y), .int .i64 (numR z)] 23)).frozen? ⟨w.heap.size, 1, none⟩ = false := (by go_simp); have Q4 : (w'.alloc (Obj.cells #[.int .i64 (-1), .int .i64 (numR y), .int .i64 (numR z)] 23)).cell? ⟨w.heap.size, 1, none⟩ = some (.int .i64 0) := (by go_simp); have F5 : (w'.alloc (Obj.cells #[.int .i64 (-1), .int .i64 (numR y), .int .i64 (numR z)] 23)).frozen? ⟨w.heap.size, 2, none⟩ = false := (by go_simp); have Q5 : (w'.alloc (Obj.cells #[.int .i64 (-1), .int .i64 (numR y), .int .i64 (numR z)] 23)).cell? ⟨w.heap.size, 2, none⟩ = some (.int .i64 0) := (by go_simp); have Z6 : w.heap.size < (w'.alloc (Obj.cells #[.int .i64 (-1), .int .i64 (numR y), .int .i64 (numR z)] 23)).heap.size := (by first | omega | (simp; done) | (simp; omega)); have Q6 : (w'.alloc (Obj.cells #[.int .i64 (-1), .int .i64 (numR y), .int .i64 (numR z)] 23)).cell? ⟨g, 0, none⟩ = some (.string x) := (by go_simp); have Z7 : g < (w'.alloc (Obj.cells #[.int .i64 (-1), .int .i64 (numR y), .int .i64 (numR z)] 23)).heap.size := (by first | omega | (simp; done) | (simp; omega)); have BB : Below w.heap.size w (w'.alloc (Obj.cells #[.int .i64 (-1), .int .i64 (numR y), .int .i64 (numR z)] 23)) := (by go_grown); generalize w'.alloc (Obj.cells #[.int .i64 (-1), .int .i64 (numR y), .int .i64 (numR z)] 23) = w2 at *)
    obtain ⟨X, hX⟩ : ∃ X, X = w'.heap.size := ⟨_, rfl⟩
    have hbX : w.heap.size ≠ X := by omega
    have hgXn : g ≠ X := by omega
    have hSt : DoorSt w.heap.size X g x (numR y) (numR z) w2 (dplace x 0) := by
      rw [hX]; exact ⟨Q0, Q1, Q2, F0, Q3, Q4, Q5, F3, F4, F5, Q6, Z3, Z6, Z7⟩
    have hXw : w.heap.size ≤ X := by omega
    rw [← hX]
    have hB2 := BB
    clear hX Q0 Q1 Q2 F0 Q3 Q4 Q5 F3 F4 F5 Q6 Z3 Z6 Z7 BB kp kq c0 c1 c2 hgX hg hz hs hb hc hf hB hd
    generalize numR y = K at *
    generalize numR z = R at *
    generalize numOk y = OK at *
    generalize numOk z = OR at *
    go_loopw [10] (fun v wr => ∃ P : Nat, P ≤ 4 ∧ v = .int .i64 P ∧ DoorSt w.heap.size X g x K R wr (dplace x P) ∧ Below w.heap.size w wr) (fun v _ => 4 - (intOf v).toNat)
    case atStart => exact ⟨0, by omega, rfl, hSt, hB2⟩
    case round =>
      clear hSt hB2
      obtain ⟨P, hP, rfl, hSt, hB⟩ := hrel
      have hq := hB.size
      have HSt := Lib.hid hSt
      obtain ⟨x0, x1, x2, xf, r0, r1, r2, f0, f1, f2, gx, lX, lb, lg⟩ := hSt
      by_cases hlP : P < 4
      · have lP : (P : Int) ≤ 3 := by omega
        replace kn := kn P
        by_cases hn : doorName P = x
        · have HE := Lib.hid (show dplace x (P + 1) = P by unfold dplace; rw [if_pos hn])
          have he := ba_eq' hn
          generalize doorName P = T at *
          generalize dplace x P = Dp at *
          clear hn
          go_wp2
          (refine wp_region_cls (by kernel_rfl) (by kernel_rfl) ?_; (repeat (go_big_quiet_step ((go_at_call 35; exact cls_B (kn _))))); refine wpQuiet_nil ?_; rintro _ ⟨u, rfl⟩; have hb := u.below; replace hB := hB.trans (hb.mono hB.size); generalize u.w = w' at *; obtain ⟨hc, hf, hs⟩ := bkeep hb; have hq' := hb.size; have hq := hB.size; have hb' := hb; clear hb)
          go_wp2
          go_roundw
          case rel => exact ⟨P + 1, by omega, by go_num, by rw [HE.out]; exact (HSt.out.below hb').set hbX hgXn _, below_set hB hXw⟩
          case measure => simp [intOf]; omega
        · have HE := Lib.hid (show dplace x (P + 1) = dplace x P by rw [dplace, if_neg hn])
          have he := ba_ne hn
          generalize doorName P = T at *
          generalize dplace x P = Dp at *
          clear hn
          go_wp2
          (refine wp_region_cls (by kernel_rfl) (by kernel_rfl) ?_; (repeat (go_big_quiet_step ((go_at_call 35; exact cls_B (kn _))))); refine wpQuiet_nil ?_; rintro _ ⟨u, rfl⟩; have hb := u.below; replace hB := hB.trans (hb.mono hB.size); generalize u.w = w' at *; obtain ⟨hc, hf, hs⟩ := bkeep hb; have hq' := hb.size; have hq := hB.size; have hb' := hb; clear hb)
          go_wp2
          go_roundw
          case rel => exact ⟨P + 1, by omega, by go_num, by rw [HE.out]; exact (HSt.out.below hb'), hB⟩
          case measure => simp [intOf]; omega
      · obtain rfl : P = 4 := by omega
        generalize dplace x 4 = Dp at *
        replace ko := fun W c0 c1 c2 => ko X Dp K R W c0 c1 c2
        cases OK <;> cases OR
        case true.true =>
          cases hv : validDoor Dp K R
          · obtain ⟨rfl, rfl, rfl, rfl⟩ := HN.out (fun _ _ h => by rw [hv] at h; cases h)
            rw [hv] at ko
            clear hv HY HN
            go_wp2_with (go_at_call 36; refine (ko _ (by go_cell) (by go_cell) (by go_cell)).mono ?_; rintro e w' ⟨rfl, rfl⟩)
            refine bodyPost_ret (by simp [results, Tryd.results19, go_sem, *]; try rfl) rfl ?_
            exact ⟨rfl, (by first | go_grown | (repeat (first | exact hB | refine Below.alloc ?_ (by simp [World.setCell]; omega) _ | refine below_set ?_ (by omega))))⟩
          · obtain ⟨rfl, rfl, rfl, rfl⟩ := HY.out rfl rfl hv
            rw [hv] at ko
            clear hv HY HN
            go_wp2_with (go_at_call 36; refine (ko _ (by go_cell) (by go_cell) (by go_cell)).mono ?_; rintro e w' ⟨rfl, rfl⟩)
            refine bodyPost_ret (by simp [results, Tryd.results19, go_sem, *]; try rfl) rfl ?_
            exact ⟨rfl, (by first | go_grown | (repeat (first | exact hB | refine Below.alloc ?_ (by simp [World.setCell]; omega) _ | refine below_set ?_ (by omega))))⟩
        all_goals
          obtain ⟨rfl, rfl, rfl, rfl⟩ := HN.out (fun a b _ => by first | (exact absurd a (by decide)) | (exact absurd b (by decide)))
          clear HY HN
          go_wp2
          refine bodyPost_ret (by simp [results, Tryd.results19, go_sem, *]; try rfl) rfl ?_
          exact ⟨rfl, (by first | go_grown | (repeat (first | exact hB | refine Below.alloc ?_ (by simp [World.setCell]; omega) _ | refine below_set ?_ (by omega))))⟩
  · obtain ⟨rfl, rfl, rfl, rfl⟩ := door_spec_no hp (fun x' y' z' P e _ _ _ _ => hlen (by rw [e]; rfl))
    have hn : ((((splitL s 47).length : Nat) : Int) == 3) = false := beq_eq_false_iff_ne.2 (by omega)
    clear hp hlen
    generalize splitL s 47 = L at *
    go_enter Tryd.func19, Tryd.ntmps19
    go_wp2_with fail
    refine (ksp _).mono ?_
    rintro e w1 ⟨v, rfl, hS, hb⟩
    obtain ⟨a, c, rfl⟩ := hS.len
    obtain ⟨hc, hf, hsx⟩ := bkeep hb
    have z0 : w.heap.size < w1.heap.size := hsx _ (by simp)
    have hB : Below w.heap.size w w1 := Below.trans (by go_grown) (hb.mono (by go_size))
    clear hS hb
    go_wp2_with fail
    refine bodyPost_ret (by simp [results, Tryd.results19, go_sem, *]; try rfl) rfl ?_
    exact ⟨rfl, (by first | go_grown | (repeat (first | exact hB | refine Below.alloc ?_ (by simp [World.setCell]; omega) _ | refine below_set ?_ (by omega))))⟩

theorem spec_ReadDoor (s : ByteArray) (p k r : Int) (ok : Bool) (w : World) (hs : s.size ≤ 1048576) (hp : DoorIs s p k r ok) :
    Calls Tryd.prog 7 #[.string s] w fun e w' => e = .returned (.tuple #[.agg #[.int .i64 p, .int .i64 k, .int .i64 r], .bool ok]) ∧ Below w.heap.size w w' := by
  have k := fun W => spec_l14Read s p k r ok W hs hp
  clear hp
  go_enter Tryd.func7, Tryd.ntmps7
  go_wp2_with (go_at_call 19; (with_reducible refine (k _).mono ?_); rintro e w' ⟨rfl, hb⟩; obtain ⟨hc, hf, hs⟩ := bkeep hb; have hz : w.heap.size < w'.heap.size := (by have := hb.size; (try simp at this); omega); have hB : Below w.heap.size w w' := Below.trans (by go_grown) (hb.mono (by go_size)))
  refine bodyPost_ret (by simp [results, Tryd.results7, go_sem, *]; try rfl) rfl ?_
  exact ⟨rfl, (by first | go_grown | (repeat (first | exact hB | refine Below.alloc ?_ (by simp [World.setCell]; omega) _ | refine below_set ?_ (by omega))))⟩

end Go.Proofs.YtdilenfhnanepaaDoor
