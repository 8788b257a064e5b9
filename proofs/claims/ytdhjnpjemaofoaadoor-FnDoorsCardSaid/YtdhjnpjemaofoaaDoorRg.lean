/-
  Contracts: doors read.
-/
import Derived.Test.YtdhjnpjemaofoaaDoorRd
namespace Go.Proofs.YtdhjnpjemaofoaaDoor
open Go.RowKit
set_option linter.unusedVariables false
set_option linter.unusedSimpArgs false


/-- No valid door ahead of (P, K, R) has the text. -/
def SeenD (s : ByteArray) (P K R : Int) : Prop := ∀ p k r, validDoor p k r = true → (p < P ∨ (p = P ∧ (k < K ∨ (k = K ∧ r < R)))) → doorTx p k r ≠ s
theorem SeenD.start (s : ByteArray) : SeenD s 0 0 0 := fun p k r hv h => by
  have a := validDoor_p hv
  have b := validDoor_bd' hv
  omega
theorem SeenD.next {s : ByteArray} {P K R : Int} (h : SeenD s P K R) (hn : validDoor P K R = true → doorTx P K R ≠ s) : SeenD s P K (R + 1) := fun p k r hv hb => by
  by_cases h1 : p < P ∨ (p = P ∧ (k < K ∨ (k = K ∧ r < R)))
  · exact h p k r hv h1
  · obtain ⟨rfl, rfl, rfl⟩ : p = P ∧ k = K ∧ r = R := by omega
    exact hn hv
theorem SeenD.row {s : ByteArray} {P K : Int} (h : SeenD s P K 4) : SeenD s P (K + 1) 0 := fun p k r hv hb => h p k r hv (by have b := validDoor_bd' hv; omega)
theorem SeenD.page {s : ByteArray} {P : Int} (h : SeenD s P 3 0) : SeenD s (P + 1) 0 0 := fun p k r hv hb => h p k r hv (by have b := validDoor_bd' hv; omega)
theorem SeenD.all {s : ByteArray} (h : SeenD s 4 0 0) : ∀ p k r, validDoor p k r = true → doorTx p k r ≠ s := fun p k r hv => h p k r hv (by have a := validDoor_p hv; omega)
set_option maxHeartbeats 4000000 in
theorem impl_ReadDoor (s : ByteArray) (p k r : Int) (ok : Bool) (w : World) (hs : s.size ≤ 1048576) (hp : DoorIs s p k r ok) (hT : PowAt w) :
    Calls Tryd.prog 17 #[.string s] w fun e w' => e = .returned (.tuple #[.agg #[.int .i64 p, .int .i64 k, .int .i64 r], .bool ok]) ∧ Below w.heap.size w w' := by
  have HHit := Lib.hid (fun P K R h1 h2 => door_hit (p' := P) (k' := K) (r' := R) hp h1 h2)
  have HNone := Lib.hid (fun h => door_none hp h)
  have HS0 := Lib.hid (SeenD.start s)
  clear hp
  go_enter Tryd.func17, Tryd.ntmps17
  go_wp2
  (have F0 : (w.alloc (Obj.cells #[.int .i64 0, .int .i64 0, .int .i64 0] 25)).frozen? ⟨w.heap.size, 0, none⟩ = false := (by go_simp); have Q0 : (w.alloc (Obj.cells #[.int .i64 0, .int .i64 0, .int .i64 0] 25)).cell? ⟨w.heap.size, 0, none⟩ = some (.int .i64 0) := (by go_simp); have F1 : (w.alloc (Obj.cells #[.int .i64 0, .int .i64 0, .int .i64 0] 25)).frozen? ⟨w.heap.size, 1, none⟩ = false := (by go_simp); have Q1 : (w.alloc (Obj.cells #[.int .i64 0, .int .i64 0, .int .i64 0] 25)).cell? ⟨w.heap.size, 1, none⟩ = some (.int .i64 0) := (by go_simp); have F2 : (w.alloc (Obj.cells #[.int .i64 0, .int .i64 0, .int .i64 0] 25)).frozen? ⟨w.heap.size, 2, none⟩ = false := (by go_simp); have Q2 : (w.alloc (Obj.cells #[.int .i64 0, .int .i64 0, .int .i64 0] 25)).cell? ⟨w.heap.size, 2, none⟩ = some (.int .i64 0) := (by go_simp); have Z3 : w.heap.size < (w.alloc (Obj.cells #[.int .i64 0, .int .i64 0, .int .i64 0] 25)).heap.size := (by first | omega | (simp; done) | (simp; omega)); have BB : Below w.heap.size w (w.alloc (Obj.cells #[.int .i64 0, .int .i64 0, .int .i64 0] 25)) := (by go_grown); generalize w.alloc (Obj.cells #[.int .i64 0, .int .i64 0, .int .i64 0] 25) = w2 at *)
  have hT0 := hT.below BB
  clear hT
  have HB := Lib.hid BB
  clear BB
  go_loopw [4] (fun v wr => ∃ P : Nat, P ≤ 4 ∧ v = .int .i64 P ∧ SeenD s P 0 0 ∧ Below w2.heap.size w2 wr) (fun v _ => 4 - (intOf v).toNat)
  case atStart => exact ⟨0, by omega, rfl, HS0.out, Below.refl _ _⟩
  case round =>
    obtain ⟨P, hP, rfl, hsn, hB⟩ := hrel
    have hq := hB.size
    have HSN := Lib.hid hsn
    clear hsn
    by_cases hlP : P < 4
    · have lP : (P : Int) ≤ 3 := by omega
      obtain ⟨wo, ewo⟩ : ∃ wo : World, wo = wr := ⟨_, rfl⟩
      subst ewo
      go_wp2
      go_loopw [12] (fun v wi => ∃ K : Nat, K ≤ 3 ∧ v = .int .i64 K ∧ SeenD s P K 0 ∧ Below w2.heap.size w2 wi) (fun v _ => 3 - (intOf v).toNat)
      case atStart => exact ⟨0, by omega, rfl, HSN.out, hB⟩
      case round =>
        clear hB hq HSN
        obtain ⟨K, hK, rfl, hsn, hB⟩ := hrel
        have hq := hB.size
        have HSN := Lib.hid hsn
        clear hsn
        by_cases hlK : K < 3
        · have lK : (K : Int) < 3 := by omega
          obtain ⟨wo2, ewo2⟩ : ∃ wo : World, wo = wr := ⟨_, rfl⟩
          subst ewo2
          go_wp2
          go_loopw [15] (fun v wi => ∃ R : Nat, R ≤ 4 ∧ v = .int .i64 R ∧ SeenD s P K R ∧ Below w2.heap.size w2 wi) (fun v _ => 4 - (intOf v).toNat)
          case atStart => exact ⟨0, by omega, rfl, HSN.out, hB⟩
          case round =>
            clear hB hq HSN
            obtain ⟨R, hR, rfl, hsn, hB⟩ := hrel
            have hq := hB.size
            have HSN := Lib.hid hsn
            clear hsn
            by_cases hlR : R < 4
            · have lR : (R : Int) < 4 := by omega
              have kv := fun W => impl_ValidDoor P K R W
              have kt := fun W h => impl_DoorText P K R W h
              have HN := Lib.hid (fun hn => (HSN.out).next hn)
              have HH := Lib.hid (fun h1 h2 => HHit.out P K R h1 h2)
              have s0 := (hB.cell (p := ⟨w.heap.size, 0, none⟩) Z3).trans Q0
              have s1 := (hB.cell (p := ⟨w.heap.size, 1, none⟩) Z3).trans Q1
              have s2 := (hB.cell (p := ⟨w.heap.size, 2, none⟩) Z3).trans Q2
              have f0 := (hB.frozen (p := ⟨w.heap.size, 0, none⟩) Z3).trans F0
              have f1 := (hB.frozen (p := ⟨w.heap.size, 1, none⟩) Z3).trans F1
              have f2 := (hB.frozen (p := ⟨w.heap.size, 2, none⟩) Z3).trans F2
              have y0 : w.heap.size < wr.heap.size := by omega
              clear HHit HSN HNone
              cases hv : validDoor P K R
              · have HN2 := Lib.hid (HN.out (fun h => by rw [hv] at h; cases h))
                rw [hv] at kv
                clear hv HN HH kt
                go_wp2_with fail
                with_reducible refine (kv _).mono ?_
                rintro e wa ⟨rfl, hba⟩
                have za1 : wr.heap.size < wa.heap.size := Nat.lt_of_lt_of_le (by first | omega | (simp; done) | (simp [World.setCell]; done) | (simp; omega) | (simp [World.setCell]; omega)) hba.size
                have ya1 : w.heap.size < wa.heap.size := by omega
                have qa0 : wa.cell? ⟨wr.heap.size, 0, none⟩ = some (.int .i64 P) := (hba.cell (p := ⟨wr.heap.size, 0, none⟩) (by first | omega | (simp; done) | (simp [World.setCell]; done) | (simp; omega) | (simp [World.setCell]; omega))).trans (by go_cell)
                have qa1 : wa.cell? ⟨wr.heap.size, 1, none⟩ = some (.int .i64 K) := (hba.cell (p := ⟨wr.heap.size, 1, none⟩) (by first | omega | (simp; done) | (simp [World.setCell]; done) | (simp; omega) | (simp [World.setCell]; omega))).trans (by go_cell)
                have qa2 : wa.cell? ⟨wr.heap.size, 2, none⟩ = some (.int .i64 R) := (hba.cell (p := ⟨wr.heap.size, 2, none⟩) (by first | omega | (simp; done) | (simp [World.setCell]; done) | (simp; omega) | (simp [World.setCell]; omega))).trans (by go_cell)
                have sa0 : wa.cell? ⟨w.heap.size, 0, none⟩ = some (.int .i64 0) := (hba.cell (p := ⟨w.heap.size, 0, none⟩) (by first | omega | (simp; done) | (simp [World.setCell]; done) | (simp; omega) | (simp [World.setCell]; omega))).trans (by go_cell)
                have sa1 : wa.cell? ⟨w.heap.size, 1, none⟩ = some (.int .i64 0) := (hba.cell (p := ⟨w.heap.size, 1, none⟩) (by first | omega | (simp; done) | (simp [World.setCell]; done) | (simp; omega) | (simp [World.setCell]; omega))).trans (by go_cell)
                have sa2 : wa.cell? ⟨w.heap.size, 2, none⟩ = some (.int .i64 0) := (hba.cell (p := ⟨w.heap.size, 2, none⟩) (by first | omega | (simp; done) | (simp [World.setCell]; done) | (simp; omega) | (simp [World.setCell]; omega))).trans (by go_cell)
                have fa0 : wa.frozen? ⟨w.heap.size, 0, none⟩ = false := (hba.frozen (p := ⟨w.heap.size, 0, none⟩) (by first | omega | (simp; done) | (simp [World.setCell]; done) | (simp; omega) | (simp [World.setCell]; omega))).trans (by go_simp)
                have fa1 : wa.frozen? ⟨w.heap.size, 1, none⟩ = false := (hba.frozen (p := ⟨w.heap.size, 1, none⟩) (by first | omega | (simp; done) | (simp [World.setCell]; done) | (simp; omega) | (simp [World.setCell]; omega))).trans (by go_simp)
                have fa2 : wa.frozen? ⟨w.heap.size, 2, none⟩ = false := (hba.frozen (p := ⟨w.heap.size, 2, none⟩) (by first | omega | (simp; done) | (simp [World.setCell]; done) | (simp; omega) | (simp [World.setCell]; omega))).trans (by go_simp)
                have hBa : Below w2.heap.size w2 wa := Below.trans (by first | go_grown | (repeat (first | exact hB | refine Below.alloc ?_ (by simp [World.setCell]; omega) _ | refine below_set ?_ (by omega)))) (hba.mono (by first | go_size | (simp; omega)))
                clear hba s0 s1 s2 f0 f1 f2
                go_wp2_with fail
                go_roundw
                case rel => exact ⟨R + 1, by omega, by go_num, by exact HN2.out, by first | exact hBa | assumption⟩
                case measure => simp [intOf]; omega
              · rw [hv] at kv
                have hdt : doorText P K R = doorTx P K R := by unfold doorText; rw [if_pos hv]
                rw [hdt] at kt
                by_cases ht : doorTx P K R = s
                · obtain ⟨rfl, rfl, rfl, rfl⟩ := HH.out hv ht
                  have he := ba_eq' ht
                  clear hv ht HH HN hdt
                  generalize doorTx P K R = T at *
                  go_wp2_with fail
                  with_reducible refine (kv _).mono ?_
                  rintro e wa ⟨rfl, hba⟩
                  have za1 : wr.heap.size < wa.heap.size := Nat.lt_of_lt_of_le (by first | omega | (simp; done) | (simp [World.setCell]; done) | (simp; omega) | (simp [World.setCell]; omega)) hba.size
                  have ya1 : w.heap.size < wa.heap.size := by omega
                  have qa0 : wa.cell? ⟨wr.heap.size, 0, none⟩ = some (.int .i64 P) := (hba.cell (p := ⟨wr.heap.size, 0, none⟩) (by first | omega | (simp; done) | (simp [World.setCell]; done) | (simp; omega) | (simp [World.setCell]; omega))).trans (by go_cell)
                  have qa1 : wa.cell? ⟨wr.heap.size, 1, none⟩ = some (.int .i64 K) := (hba.cell (p := ⟨wr.heap.size, 1, none⟩) (by first | omega | (simp; done) | (simp [World.setCell]; done) | (simp; omega) | (simp [World.setCell]; omega))).trans (by go_cell)
                  have qa2 : wa.cell? ⟨wr.heap.size, 2, none⟩ = some (.int .i64 R) := (hba.cell (p := ⟨wr.heap.size, 2, none⟩) (by first | omega | (simp; done) | (simp [World.setCell]; done) | (simp; omega) | (simp [World.setCell]; omega))).trans (by go_cell)
                  have sa0 : wa.cell? ⟨w.heap.size, 0, none⟩ = some (.int .i64 0) := (hba.cell (p := ⟨w.heap.size, 0, none⟩) (by first | omega | (simp; done) | (simp [World.setCell]; done) | (simp; omega) | (simp [World.setCell]; omega))).trans (by go_cell)
                  have sa1 : wa.cell? ⟨w.heap.size, 1, none⟩ = some (.int .i64 0) := (hba.cell (p := ⟨w.heap.size, 1, none⟩) (by first | omega | (simp; done) | (simp [World.setCell]; done) | (simp; omega) | (simp [World.setCell]; omega))).trans (by go_cell)
                  have sa2 : wa.cell? ⟨w.heap.size, 2, none⟩ = some (.int .i64 0) := (hba.cell (p := ⟨w.heap.size, 2, none⟩) (by first | omega | (simp; done) | (simp [World.setCell]; done) | (simp; omega) | (simp [World.setCell]; omega))).trans (by go_cell)
                  have fa0 : wa.frozen? ⟨w.heap.size, 0, none⟩ = false := (hba.frozen (p := ⟨w.heap.size, 0, none⟩) (by first | omega | (simp; done) | (simp [World.setCell]; done) | (simp; omega) | (simp [World.setCell]; omega))).trans (by go_simp)
                  have fa1 : wa.frozen? ⟨w.heap.size, 1, none⟩ = false := (hba.frozen (p := ⟨w.heap.size, 1, none⟩) (by first | omega | (simp; done) | (simp [World.setCell]; done) | (simp; omega) | (simp [World.setCell]; omega))).trans (by go_simp)
                  have fa2 : wa.frozen? ⟨w.heap.size, 2, none⟩ = false := (hba.frozen (p := ⟨w.heap.size, 2, none⟩) (by first | omega | (simp; done) | (simp [World.setCell]; done) | (simp; omega) | (simp [World.setCell]; omega))).trans (by go_simp)
                  have hBa : Below w2.heap.size w2 wa := Below.trans (by first | go_grown | (repeat (first | exact hB | refine Below.alloc ?_ (by simp [World.setCell]; omega) _ | refine below_set ?_ (by omega)))) (hba.mono (by first | go_size | (simp; omega)))
                  clear hba s0 s1 s2 f0 f1 f2
                  go_wp2_with fail
                  with_reducible refine (kt _ (hT0.below (by first | go_grown | (repeat (first | exact hBa | refine Below.alloc ?_ (by simp [World.setCell]; omega) _ | refine below_set ?_ (by omega)))))).mono ?_
                  rintro e wb ⟨rfl, hbb⟩
                  have zb1 : wr.heap.size < wb.heap.size := Nat.lt_of_lt_of_le (by first | omega | (simp; done) | (simp [World.setCell]; done) | (simp; omega) | (simp [World.setCell]; omega)) hbb.size
                  have yb1 : w.heap.size < wb.heap.size := by omega
                  have qb0 : wb.cell? ⟨wr.heap.size, 0, none⟩ = some (.int .i64 P) := (hbb.cell (p := ⟨wr.heap.size, 0, none⟩) (by first | omega | (simp; done) | (simp [World.setCell]; done) | (simp; omega) | (simp [World.setCell]; omega))).trans (by go_cell)
                  have qb1 : wb.cell? ⟨wr.heap.size, 1, none⟩ = some (.int .i64 K) := (hbb.cell (p := ⟨wr.heap.size, 1, none⟩) (by first | omega | (simp; done) | (simp [World.setCell]; done) | (simp; omega) | (simp [World.setCell]; omega))).trans (by go_cell)
                  have qb2 : wb.cell? ⟨wr.heap.size, 2, none⟩ = some (.int .i64 R) := (hbb.cell (p := ⟨wr.heap.size, 2, none⟩) (by first | omega | (simp; done) | (simp [World.setCell]; done) | (simp; omega) | (simp [World.setCell]; omega))).trans (by go_cell)
                  have sb0 : wb.cell? ⟨w.heap.size, 0, none⟩ = some (.int .i64 0) := (hbb.cell (p := ⟨w.heap.size, 0, none⟩) (by first | omega | (simp; done) | (simp [World.setCell]; done) | (simp; omega) | (simp [World.setCell]; omega))).trans (by go_cell)
                  have sb1 : wb.cell? ⟨w.heap.size, 1, none⟩ = some (.int .i64 0) := (hbb.cell (p := ⟨w.heap.size, 1, none⟩) (by first | omega | (simp; done) | (simp [World.setCell]; done) | (simp; omega) | (simp [World.setCell]; omega))).trans (by go_cell)
                  have sb2 : wb.cell? ⟨w.heap.size, 2, none⟩ = some (.int .i64 0) := (hbb.cell (p := ⟨w.heap.size, 2, none⟩) (by first | omega | (simp; done) | (simp [World.setCell]; done) | (simp; omega) | (simp [World.setCell]; omega))).trans (by go_cell)
                  have fb0 : wb.frozen? ⟨w.heap.size, 0, none⟩ = false := (hbb.frozen (p := ⟨w.heap.size, 0, none⟩) (by first | omega | (simp; done) | (simp [World.setCell]; done) | (simp; omega) | (simp [World.setCell]; omega))).trans (by go_simp)
                  have fb1 : wb.frozen? ⟨w.heap.size, 1, none⟩ = false := (hbb.frozen (p := ⟨w.heap.size, 1, none⟩) (by first | omega | (simp; done) | (simp [World.setCell]; done) | (simp; omega) | (simp [World.setCell]; omega))).trans (by go_simp)
                  have fb2 : wb.frozen? ⟨w.heap.size, 2, none⟩ = false := (hbb.frozen (p := ⟨w.heap.size, 2, none⟩) (by first | omega | (simp; done) | (simp [World.setCell]; done) | (simp; omega) | (simp [World.setCell]; omega))).trans (by go_simp)
                  have hBb : Below w2.heap.size w2 wb := Below.trans (by first | go_grown | (repeat (first | exact hBa | refine Below.alloc ?_ (by simp [World.setCell]; omega) _ | refine below_set ?_ (by omega)))) (hbb.mono (by first | go_size | (simp; omega)))
                  clear hbb qa0 qa1 qa2 sa0 sa1 sa2 fa0 fa1 fa2
                  go_wp2_with fail
                  refine bodyPost_ret (by simp [results, Tryd.results17, go_sem, *]; try rfl) rfl ?_
                  refine ⟨rfl, ?_⟩
                  have hBw := HB.out.trans (hBb.mono HB.out.size)
                  first | go_grown | (repeat (first | exact hBw | refine Below.alloc ?_ (by simp [World.setCell]; omega) _ | refine below_set ?_ (by omega)))
                · have HN2 := Lib.hid (HN.out (fun _ => ht))
                  have he := ba_ne ht
                  clear hv ht HH HN hdt
                  generalize doorTx P K R = T at *
                  go_wp2_with fail
                  with_reducible refine (kv _).mono ?_
                  rintro e wa ⟨rfl, hba⟩
                  have za1 : wr.heap.size < wa.heap.size := Nat.lt_of_lt_of_le (by first | omega | (simp; done) | (simp [World.setCell]; done) | (simp; omega) | (simp [World.setCell]; omega)) hba.size
                  have ya1 : w.heap.size < wa.heap.size := by omega
                  have qa0 : wa.cell? ⟨wr.heap.size, 0, none⟩ = some (.int .i64 P) := (hba.cell (p := ⟨wr.heap.size, 0, none⟩) (by first | omega | (simp; done) | (simp [World.setCell]; done) | (simp; omega) | (simp [World.setCell]; omega))).trans (by go_cell)
                  have qa1 : wa.cell? ⟨wr.heap.size, 1, none⟩ = some (.int .i64 K) := (hba.cell (p := ⟨wr.heap.size, 1, none⟩) (by first | omega | (simp; done) | (simp [World.setCell]; done) | (simp; omega) | (simp [World.setCell]; omega))).trans (by go_cell)
                  have qa2 : wa.cell? ⟨wr.heap.size, 2, none⟩ = some (.int .i64 R) := (hba.cell (p := ⟨wr.heap.size, 2, none⟩) (by first | omega | (simp; done) | (simp [World.setCell]; done) | (simp; omega) | (simp [World.setCell]; omega))).trans (by go_cell)
                  have sa0 : wa.cell? ⟨w.heap.size, 0, none⟩ = some (.int .i64 0) := (hba.cell (p := ⟨w.heap.size, 0, none⟩) (by first | omega | (simp; done) | (simp [World.setCell]; done) | (simp; omega) | (simp [World.setCell]; omega))).trans (by go_cell)
                  have sa1 : wa.cell? ⟨w.heap.size, 1, none⟩ = some (.int .i64 0) := (hba.cell (p := ⟨w.heap.size, 1, none⟩) (by first | omega | (simp; done) | (simp [World.setCell]; done) | (simp; omega) | (simp [World.setCell]; omega))).trans (by go_cell)
                  have sa2 : wa.cell? ⟨w.heap.size, 2, none⟩ = some (.int .i64 0) := (hba.cell (p := ⟨w.heap.size, 2, none⟩) (by first | omega | (simp; done) | (simp [World.setCell]; done) | (simp; omega) | (simp [World.setCell]; omega))).trans (by go_cell)
                  have fa0 : wa.frozen? ⟨w.heap.size, 0, none⟩ = false := (hba.frozen (p := ⟨w.heap.size, 0, none⟩) (by first | omega | (simp; done) | (simp [World.setCell]; done) | (simp; omega) | (simp [World.setCell]; omega))).trans (by go_simp)
                  have fa1 : wa.frozen? ⟨w.heap.size, 1, none⟩ = false := (hba.frozen (p := ⟨w.heap.size, 1, none⟩) (by first | omega | (simp; done) | (simp [World.setCell]; done) | (simp; omega) | (simp [World.setCell]; omega))).trans (by go_simp)
                  have fa2 : wa.frozen? ⟨w.heap.size, 2, none⟩ = false := (hba.frozen (p := ⟨w.heap.size, 2, none⟩) (by first | omega | (simp; done) | (simp [World.setCell]; done) | (simp; omega) | (simp [World.setCell]; omega))).trans (by go_simp)
                  have hBa : Below w2.heap.size w2 wa := Below.trans (by first | go_grown | (repeat (first | exact hB | refine Below.alloc ?_ (by simp [World.setCell]; omega) _ | refine below_set ?_ (by omega)))) (hba.mono (by first | go_size | (simp; omega)))
                  clear hba s0 s1 s2 f0 f1 f2
                  go_wp2_with fail
                  with_reducible refine (kt _ (hT0.below (by first | go_grown | (repeat (first | exact hBa | refine Below.alloc ?_ (by simp [World.setCell]; omega) _ | refine below_set ?_ (by omega)))))).mono ?_
                  rintro e wb ⟨rfl, hbb⟩
                  have zb1 : wr.heap.size < wb.heap.size := Nat.lt_of_lt_of_le (by first | omega | (simp; done) | (simp [World.setCell]; done) | (simp; omega) | (simp [World.setCell]; omega)) hbb.size
                  have yb1 : w.heap.size < wb.heap.size := by omega
                  have qb0 : wb.cell? ⟨wr.heap.size, 0, none⟩ = some (.int .i64 P) := (hbb.cell (p := ⟨wr.heap.size, 0, none⟩) (by first | omega | (simp; done) | (simp [World.setCell]; done) | (simp; omega) | (simp [World.setCell]; omega))).trans (by go_cell)
                  have qb1 : wb.cell? ⟨wr.heap.size, 1, none⟩ = some (.int .i64 K) := (hbb.cell (p := ⟨wr.heap.size, 1, none⟩) (by first | omega | (simp; done) | (simp [World.setCell]; done) | (simp; omega) | (simp [World.setCell]; omega))).trans (by go_cell)
                  have qb2 : wb.cell? ⟨wr.heap.size, 2, none⟩ = some (.int .i64 R) := (hbb.cell (p := ⟨wr.heap.size, 2, none⟩) (by first | omega | (simp; done) | (simp [World.setCell]; done) | (simp; omega) | (simp [World.setCell]; omega))).trans (by go_cell)
                  have sb0 : wb.cell? ⟨w.heap.size, 0, none⟩ = some (.int .i64 0) := (hbb.cell (p := ⟨w.heap.size, 0, none⟩) (by first | omega | (simp; done) | (simp [World.setCell]; done) | (simp; omega) | (simp [World.setCell]; omega))).trans (by go_cell)
                  have sb1 : wb.cell? ⟨w.heap.size, 1, none⟩ = some (.int .i64 0) := (hbb.cell (p := ⟨w.heap.size, 1, none⟩) (by first | omega | (simp; done) | (simp [World.setCell]; done) | (simp; omega) | (simp [World.setCell]; omega))).trans (by go_cell)
                  have sb2 : wb.cell? ⟨w.heap.size, 2, none⟩ = some (.int .i64 0) := (hbb.cell (p := ⟨w.heap.size, 2, none⟩) (by first | omega | (simp; done) | (simp [World.setCell]; done) | (simp; omega) | (simp [World.setCell]; omega))).trans (by go_cell)
                  have fb0 : wb.frozen? ⟨w.heap.size, 0, none⟩ = false := (hbb.frozen (p := ⟨w.heap.size, 0, none⟩) (by first | omega | (simp; done) | (simp [World.setCell]; done) | (simp; omega) | (simp [World.setCell]; omega))).trans (by go_simp)
                  have fb1 : wb.frozen? ⟨w.heap.size, 1, none⟩ = false := (hbb.frozen (p := ⟨w.heap.size, 1, none⟩) (by first | omega | (simp; done) | (simp [World.setCell]; done) | (simp; omega) | (simp [World.setCell]; omega))).trans (by go_simp)
                  have fb2 : wb.frozen? ⟨w.heap.size, 2, none⟩ = false := (hbb.frozen (p := ⟨w.heap.size, 2, none⟩) (by first | omega | (simp; done) | (simp [World.setCell]; done) | (simp; omega) | (simp [World.setCell]; omega))).trans (by go_simp)
                  have hBb : Below w2.heap.size w2 wb := Below.trans (by first | go_grown | (repeat (first | exact hBa | refine Below.alloc ?_ (by simp [World.setCell]; omega) _ | refine below_set ?_ (by omega)))) (hbb.mono (by first | go_size | (simp; omega)))
                  clear hbb qa0 qa1 qa2 sa0 sa1 sa2 fa0 fa1 fa2
                  go_wp2_with fail
                  go_roundw
                  case rel => exact ⟨R + 1, by omega, by go_num, by exact HN2.out, hBb⟩
                  case measure => simp [intOf]; omega
            · obtain rfl : R = 4 := by omega
              have HR := Lib.hid ((HSN.out).row)
              go_wp2
              go_roundw
              case rel => exact ⟨K + 1, by omega, by go_num, HR.out, hB⟩
              case measure => simp [intOf]; omega
        · obtain rfl : K = 3 := by omega
          have HR := Lib.hid ((HSN.out).page)
          go_wp2
          go_roundw
          case rel => exact ⟨P + 1, by omega, by go_num, HR.out, hB⟩
          case measure => simp [intOf]; omega
    · obtain rfl : P = 4 := by omega
      obtain ⟨rfl, rfl, rfl, rfl⟩ := HNone.out ((HSN.out).all)
      have s0 := (hB.cell (p := ⟨w.heap.size, 0, none⟩) Z3).trans Q0
      have s1 := (hB.cell (p := ⟨w.heap.size, 1, none⟩) Z3).trans Q1
      have s2 := (hB.cell (p := ⟨w.heap.size, 2, none⟩) Z3).trans Q2
      have f0 := (hB.frozen (p := ⟨w.heap.size, 0, none⟩) Z3).trans F0
      have f1 := (hB.frozen (p := ⟨w.heap.size, 1, none⟩) Z3).trans F1
      have f2 := (hB.frozen (p := ⟨w.heap.size, 2, none⟩) Z3).trans F2
      have y0 : w.heap.size < wr.heap.size := by omega
      go_wp2
      refine bodyPost_ret (by simp [results, Tryd.results17, go_sem, *]; try rfl) rfl ?_
      refine ⟨rfl, ?_⟩
      have hBw := HB.out.trans (hB.mono HB.out.size)
      first | go_grown | (repeat (first | exact hBw | refine Below.alloc ?_ (by simp [World.setCell]; omega) _ | refine below_set ?_ (by omega)))

end Go.Proofs.YtdhjnpjemaofoaaDoor
