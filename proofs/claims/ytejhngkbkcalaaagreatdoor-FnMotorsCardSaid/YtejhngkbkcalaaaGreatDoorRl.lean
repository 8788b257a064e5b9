/-
  Contracts: lists read from texts; the reader of motors on both sides.
-/
import Derived.Test.YtejhngkbkcalaaaGreatDoorPml
import Derived.Test.YtejhngkbkcalaaaGreatDoorSx
import Derived.Test.YtejhngkbkcalaaaGreatDoorRd
import Derived.Test.YtejhngkbkcalaaaGreatDoorAp
import Derived.Test.YtejhngkbkcalaaaGreatDoorR3
import Derived.StillTail
import Derived.BigRegion
import Derived.Deep.DeepCutAuto
namespace Go.Proofs.YtejhngkbkcalaaaGreatDoor
open Go.RowKit
set_option linter.unusedVariables false
set_option linter.unusedSimpArgs false

theorem AppOf.outcR {B : Nat} {w : World} {v : Value} {L : List Int} (h : AppOf B w v L) : ∃ a c, v = .slice a L.length c ∧ L.length ≤ c ∧ c ≤ maxLen ∧ OwnIn B w.heap.size w a L.length (fun j => .int .i64 (L.getD j 0)) := by
  have h0 := h
  rcases h.2 with ⟨rfl, hn⟩ | ⟨g, cap, cur, rfl, hB, hg, hnc, hcc, _⟩
  · exact ⟨none, 0, by rw [hn], by omega, by unfold maxLen; omega, fun hp => by omega⟩
  · obtain ⟨a, c, e, hO⟩ := own_out h0
    have e1 : cap = c ∧ some (⟨g, 0, none⟩ : Addr) = a := by injection e with e1 e2 e3; exact ⟨e3, e1⟩
    obtain ⟨rfl, rfl⟩ := e1
    exact ⟨_, cap, rfl, hnc, hcc, hO⟩
def valsL (Z : Nat → Int) (k : Nat) : List Int := (List.range k).map Z
theorem valsL_len (Z : Nat → Int) (k : Nat) : (valsL Z k).length = k := by simp [valsL]
theorem valsL_next (Z : Nat → Int) (k : Nat) : valsL Z (k + 1) = valsL Z k ++ [Z k] := by simp [valsL, List.range_succ]
theorem valsL_at {Z : Nat → Int} {j k : Nat} (h : j < k) : (valsL Z k).getD j 0 = Z j := by simp [valsL, h]
theorem AppOf.vals {B : Nat} {w : World} {v : Value} {Z : Nat → Int} {n : Nat} (h : AppOf B w v (valsL Z n)) : ∃ a c, v = .slice a n c ∧ IntsAt w a n Z := by
  obtain ⟨a, c, rfl, _, _, ho⟩ := h.outcR
  rw [valsL_len] at *
  refine ⟨a, c, rfl, fun hn => ?_⟩
  obtain ⟨b, o, e, hb, hc⟩ := ho.ints hn
  exact ⟨b, o, e, hb, fun j hj => by rw [hc j hj]; dsimp only; rw [valsL_at hj]⟩
theorem spL_piece (s : ByteArray) (c : Int) : ∀ k x, x ∈ spL s c k → x.size ≤ s.size
  | 0, x, h => by cases h
  | k + 1, x, h => by
    unfold spL at h
    split at h
    · rcases List.mem_append.1 h with h | h
      · exact spL_piece s c k x h
      · obtain rfl := List.mem_singleton.1 h
        rw [ByteArray.size_extract]; omega
    · exact spL_piece s c k x h
theorem pcS_size (s : ByteArray) (j : Nat) : (pcS s j).size ≤ s.size := by
  unfold pcS
  rw [List.getD_eq_getElem?_getD]
  cases h : (splitL s 44)[j]? with
  | none => exact Nat.zero_le _
  | some x =>
    have hm := List.mem_of_getElem? h
    show x.size ≤ s.size
    unfold splitL at hm
    rcases List.mem_append.1 hm with hm | hm
    · exact spL_piece s 44 _ x hm
    · obtain rfl := List.mem_singleton.1 hm
      rw [ByteArray.size_extract]; omega
theorem pcN_len (s : ByteArray) : 1 ≤ pcN s ∧ pcN s ≤ s.size + 1 := splitL_len s 44
theorem pcS_at {s : ByteArray} {j : Nat} (h : j < pcN s) : (splitL s 44)[j]? = some (pcS s j) := by
  unfold pcN at h
  unfold pcS
  rw [List.getElem?_eq_getElem h]; simp [List.getD_eq_getElem?_getD, h]

set_option maxHeartbeats 1000000 in
theorem impl_ListText_any (a : Option Addr) (n c : Nat) (Z : Nat → Int) (w : World) (hz : IntsAt w a n Z) (hn : n ≤ 1048577) (hn0 : 0 < n) (hT : PowAt w) :
    Calls Tryz.prog 38 #[.slice a n c] w fun e w' => e = .returned (.string (ltx Z n)) ∧ Below w.heap.size w w' := by
  by_cases h64 : n ≤ 64
  · cases hv : outB Z n
    · rw [ltx_in h64 hv]
      exact impl_ListText a n c Z w hz h64 hn0 (fun j hj => by
        have := any_false.1 hv j hj
        have h2 : inB (Z j) (-1000000000000) 1000000000000 = true := by simpa using this
        have := inB_true.1 h2
        omega) hv hT
    · rw [ltx_out hv]
      have kc := fun W h => impl_ListText_1_contains a n c Z W h (by omega)
      rw [show any (fun j => !inB (Z j) (-1000000000000) 1000000000000) n = true from hv] at kc
      have g1 : ¬ (64 : Int) < (n : Int) := by omega
      clear hv
      go_enter Tryz.func38, Tryz.ntmps38
      go_wp2_with (go_at_call 45; (with_reducible refine (kc _ hz).mono ?_); rintro e w' ⟨rfl, rfl⟩)
      go_returns
      exact ⟨rfl, Below.refl _ _⟩
  · rw [ltx_many h64]
    have g1 : (64 : Int) < (n : Int) := by omega
    go_enter Tryz.func38, Tryz.ntmps38
    go_wp2_with fail
    go_returns
    exact ⟨rfl, Below.refl _ _⟩
set_option maxHeartbeats 2000000 in
set_option maxRecDepth 100000 in
theorem impl_ReadList (s : ByteArray) (w : World) (hs : s.size ≤ 1048576) (hT : Tabs w) (hM : MaxAt w) :
    Calls Tryz.prog 47 #[.string s] w fun e w' => (∃ a n c Z ok, e = .returned (.tuple #[.slice a n c, .bool ok]) ∧ IntsAt w' a n Z ∧
      ((n = pcN s ∧ Z = pcV s ∧ ltx (pcV s) (pcN s) = s) ∨ (n = 0 ∧ (s = ⟨#[45]⟩ ∨ ltx (pcV s) (pcN s) ≠ s)))) ∧ Below w.heap.size w w' := by
  have hn := pcN_len s
  by_cases h45 : s = ⟨#[45]⟩
  · subst h45
    go_enter Tryz.func47, Tryz.ntmps47
    go_wp2_with fail
    go_returns
    exact ⟨⟨none, 0, 0, fun _ => 0, true, rfl, fun h => absurd h (by omega), Or.inr ⟨rfl, Or.inl trivial⟩⟩, Below.refl _ _⟩
  · have g45 : (s.toList == [45]) = false := by
      have h := ba_ne h45
      rw [show (⟨#[45]⟩ : ByteArray).toList = [45] by rw [ByteArray.toList_eq]] at h
      exact h
    have ks := fun W h => strings_Split_c s 44 W hs h
    have HS := Lib.hid hs
    have HN := Lib.hid h45
    clear h45
    go_enter Tryz.func47, Tryz.ntmps47
    go_wp2_with fail
    refine (ks _ hM).mono ?_
    rintro e w1 ⟨⟨v, rfl, hS⟩, hb1⟩
    obtain ⟨g, c, rfl, hg, hgc, hcs⟩ := hS.at (by have := hn.1; unfold pcN at this; exact this)
    have hP : ∀ j, j < pcN s → w1.cell? ⟨g, j, none⟩ = some (.string (pcS s j)) := fun j hj => by
      have := hcs j _ (pcS_at hj)
      rwa [Nat.zero_add] at this
    have hL : (splitL s ((44 : UInt8).toNat : Int)).length = pcN s := rfl
    rw [hL] at *
    clear hcs hS hgc hL ks
    have HV := Lib.hid (fun k => valsL_next (pcV s) k)
    have HZ := Lib.hid (fun k => valsL_len (pcV s) k)
    go_wp2_with fail
    generalize hnn : pcN s = n at *
    go_loopw [4, 14] (fun u i wr => ∃ k : Nat, k ≤ n ∧ i = .int .i64 (k : Int) ∧ AppOf w1.heap.size wr u (valsL (pcV s) k) ∧ Below w1.heap.size w1 wr) (fun _ i _ => n - (intOf i).toNat)
    case atStart => exact ⟨0, by omega, rfl, AppOf.nil _ _, Below.refl _ _⟩
    case round => as_aux_lemma =>
      obtain ⟨k, hk, rfl, hA, hK⟩ := hrel
      have hB := hb1.trans (hK.mono hb1.size)
      have sB := hB.size
      have s1 := hb1.size
      have s3 := hK.size
      by_cases hlt : k < n
      · have ck := (hK.cell (p := ⟨g, k, none⟩) hg).trans (hP k hlt)
        have kd := fun W h => impl_ReadDecimal (pcS s k) W (Nat.le_trans (pcS_size s k) hs) h
        rw [show numR (pcS s k) = pcV s k from rfl] at kd
        have HN2 := Lib.hid (HV.out k)
        have hl := HZ.out k
        generalize valsL (pcV s) k = L at *
        generalize pcV s k = z at *
        generalize numOk (pcS s k) = ok at *
        generalize pcS s k = P at *
        have k0 : (k : Int) < (n : Int) := by omega
        go_wp2_with fail
        refine (kd _ (hT.below hB)).mono ?_
        rintro e w2 ⟨rfl, hb2⟩
        have hA2 := hA.below hb2
        have hK2 := hK.trans (hb2.mono hK.size)
        have s2 := hb2.size
        clear hA hK hB hb2 ck kd
        go_wp2_with (at_builtin; refine app_int _ rfl _ _ rfl w1.heap.size _ L rfl (hA2.alloc _) w2.heap.size 1 z rfl (by go_cell) (by omega) (by simp; omega) ?_; intro v' w4 hA4 hw4)
        go_roundw
        case rel => exact ⟨k + 1, by omega, by go_num, by rw [HN2.out]; exact hA4, (hK2.alloc (by omega) _).trans hw4⟩
        case measure => simp [intOf]; omega
      · obtain rfl : k = n := by omega
        obtain ⟨a, c2, rfl, hI⟩ := hA.vals
        have kl := fun W h1 h2 => impl_ListText_any a k c2 (pcV s) W h1 (by omega) (by omega) h2
        clear hA hP
        go_wp2_with fail
        refine (kl _ hI (hT.below hB).pow).mono ?_
        rintro e w2 ⟨rfl, hb2⟩
        have hI2 := hI.below hb2
        have hB2 := hB.trans (hb2.mono sB)
        clear hI hB hb2 kl
        by_cases heq : ltx (pcV s) k = s
        · have g1 := ba_eq' heq
          have HE := Lib.hid (show ltx (pcV s) (pcN s) = s by rw [hnn]; exact heq)
          clear heq
          generalize ltx (pcV s) k = T at *
          go_wp2_with fail
          go_returns
          exact ⟨⟨a, k, c2, pcV s, true, rfl, hI2, Or.inl ⟨hnn.symm, rfl, HE.out⟩⟩, hB2⟩
        · have g1 := ba_ne heq
          have HE := Lib.hid (show ¬ ltx (pcV s) (pcN s) = s by rw [hnn]; exact heq)
          clear heq
          generalize ltx (pcV s) k = T at *
          go_wp2_with fail
          go_returns
          exact ⟨⟨none, 0, 0, fun _ => 0, false, rfl, fun h => absurd h (by omega), Or.inr ⟨rfl, Or.inr HE.out⟩⟩, hB2⟩

set_option maxHeartbeats 1000000 in
theorem impl_readNumbers (s : ByteArray) (q : Int) (w : World) (hs : s.size ≤ 1048576) (hT : Tabs w) (hM : MaxAt w) :
    Calls Tryz.prog 36 #[.string s, .int .i64 q] w fun e w' => (∃ a n c Z, e = .returned (.tuple #[.slice a n c, .bool ((n : Int) == q)]) ∧ IntsAt w' a n Z ∧
      ((n = pcN s ∧ Z = pcV s ∧ ltx (pcV s) (pcN s) = s) ∨ (n = 0 ∧ (s = ⟨#[45]⟩ ∨ ltx (pcV s) (pcN s) ≠ s)))) ∧ Below w.heap.size w w' := by
  have kr := fun W h1 h2 => impl_ReadList s W hs h1 h2
  go_enter Tryz.func36, Tryz.ntmps36
  go_wp2_with fail
  refine (kr _ hT hM).mono ?_
  rintro e w1 ⟨⟨a, n, c, Z, ok, rfl, hI, hd⟩, hb⟩
  have HD := Lib.hid hd
  clear hd kr
  go_wp2_with fail
  go_returns
  exact ⟨⟨a, n, c, Z, rfl, hI, HD.out⟩, hb⟩

set_option maxHeartbeats 2000000 in
theorem impl_ReadMotor (s : ByteArray) (p m l : Int) (ok : Bool) (w : World) (hs : s.size ≤ 1048576) (hp : MotorIs s p m l ok) (hT : Tabs w) (hM : MaxAt w) :
    Calls Tryz.prog 14 #[.string s] w fun e w' => e = .returned (.tuple #[.agg #[.int .i64 p, .int .i64 m, .int .i64 l], .bool ok]) ∧ Below w.heap.size w w' := by
  have kr := fun W h1 h2 => impl_readNumbers s 3 W hs h1 h2
  have HY := Lib.hid (fun h => motor_yes hp h)
  have HN := Lib.hid (fun h => motor_no hp h)
  have HR := Lib.hid (fun h => motor_read hp h)
  clear hp
  go_enter Tryz.func14, Tryz.ntmps14
  have bA : Below w.heap.size w (w.alloc (Obj.cells #[.int .i64 0, .int .i64 0, .int .i64 0] 25)) := Below.alloc (Below.refl _ _) (Nat.le_refl _) _
  have R0 := Row3.made w (.int .i64 0) (.int .i64 0) (.int .i64 0) 25
  go_wp2_with fail
  generalize w.alloc (Obj.cells #[.int .i64 0, .int .i64 0, .int .i64 0] 25) = w0 at *
  generalize hX : w.heap.size = X at *
  refine (kr _ (by rw [← hX] at bA; exact hT.below bA) (by rw [← hX] at bA; exact hM.below bA)).mono ?_
  rintro e w1 ⟨⟨a, n, c, Z, rfl, hI, hd⟩, hb⟩
  have R1 := R0.below hb
  have hB := bA.trans (hb.mono (by have := R0.lt; omega))
  have lX := R1.lt
  have f0 := R1.f0
  have f1 := R1.f1
  have f2 := R1.f2
  have c0 := R1.c0
  have c1 := R1.c1
  have c2 := R1.c2
  clear R0 bA hb kr hT hM
  by_cases h3 : n = 3 ∧ pcN s = 3 ∧ Z = pcV s ∧ ltx (pcV s) 3 = s
  · obtain ⟨rfl, h5, rfl, h6⟩ := h3
    clear hd
    obtain ⟨b, o, rfl, hbb, hc⟩ := hI (by decide)
    have z0 := hc 0 (by decide)
    have z1 := hc 1 (by decide)
    have z2 := hc 2 (by decide)
    have z0' : w1.cell? ⟨b, o, none⟩ = some (.int .i64 (pcV s 0)) := z0
    have lX0 : X ≤ w1.heap.size := Nat.le_of_lt lX
    obtain ⟨g1, g2⟩ := HR.out (ltx_text3 h5 h6)
    have kv := fun W => impl_ValidMotor (pcV s 0) (pcV s 1) (pcV s 2) W
    rw [g1] at kv
    have G2 := Lib.hid g2
    clear hc hI HY HN HR g1 g2 h5 h6
    generalize pcV s 0 = v0 at *
    generalize pcV s 1 = v1 at *
    generalize pcV s 2 = v2 at *
    go_upto_region 4 with fail
    go_region
    have bA : Below w1.heap.size w1 ((w1.alloc (Obj.cells #[.int .i64 v0, .int .i64 v1, .int .i64 v2] 25)).drew) := Below.drew (Below.alloc (Below.refl _ _) (Nat.le_refl _) _)
    have RV : Row3 ((w1.alloc (Obj.cells #[.int .i64 v0, .int .i64 v1, .int .i64 v2] 25)).drew) w1.heap.size (.int .i64 v0) (.int .i64 v1) (.int .i64 v2) := (Row3.made w1 (.int .i64 v0) (.int .i64 v1) (.int .i64 v2) 25).below (Below.drew (Below.refl _ _))
    have R2 := R1.below bA
    have hB2 := hB.trans (bA.mono lX0)
    go_upto_region 5 with fail
    clear f0 f1 f2 c0 c1 c2 z0 z1 z2 z0' R1 hB bA
    generalize (w1.alloc (Obj.cells #[.int .i64 v0, .int .i64 v1, .int .i64 v2] 25)).drew = w2 at *
    generalize w1.heap.size = Y at *
    clear w1
    have d0 := RV.c0
    have d1 := RV.c1
    have d2 := RV.c2
    go_wp2_with fail
    refine (kv _).mono ?_
    rintro e w3 ⟨rfl, hb3⟩
    have RV3 := RV.below hb3
    have R3 := R2.below hb3
    have hB3 := hB2.trans (hb3.mono (by have := R2.lt; omega))
    clear RV R2 hB2 hb3 d0 d1 d2 kv
    have d0 := RV3.c0
    have d1 := RV3.c1
    have d2 := RV3.c2
    have f0 := R3.f0
    have f1 := R3.f1
    have f2 := R3.f2
    have c0 := R3.c0
    have c1 := R3.c1
    have c2 := R3.c2
    have hne : Y ≠ X := by omega
    rcases G2.out with ⟨rfl, rfl, rfl, rfl⟩ | ⟨rfl, rfl, rfl, rfl⟩
    · go_wp2_with fail
      refine bodyPost_ret (by simp [results, Tryz.results14, go_sem, *]; try rfl) rfl ?_
      exact ⟨rfl, by rw [hX]; repeat (first | exact hB3 | refine below_set ?_ (by omega))⟩
    · go_wp2_with fail
      refine bodyPost_ret (by simp [results, Tryz.results14, go_sem, *]; try rfl) rfl ?_
      exact ⟨rfl, by rw [hX]; repeat (first | exact hB3 | refine below_set ?_ (by omega))⟩
  · have hn3 : ((n : Int) == 3) = false := by
      rw [beq_eq_false_iff_ne]
      intro h
      have h7 : n = 3 := by omega
      rcases hd with ⟨h1, h2, h4⟩ | ⟨h1, h2⟩
      · exact h3 ⟨h7, by omega, h2, by rw [← h1, h7] at h4; exact h4⟩
      · omega
    have hok : ok = false := by
      cases ok
      · rfl
      · obtain ⟨g1, g2, g3, g4, g5, g6, g7, g8⟩ := HY.out rfl
        exfalso
        rcases hd with ⟨h1, h2, h4⟩ | ⟨h1, h2⟩
        · exact h3 ⟨by omega, g2, h2, g8⟩
        · rcases h2 with h2 | h2
          · subst h2; exact absurd g2 (by decide)
          · rw [g2] at h2; exact h2 g8
    obtain ⟨rfl, rfl, rfl, _⟩ := HN.out hok
    subst hok
    clear h3 hd HY HN HR hI
    go_wp2_with fail
    refine bodyPost_ret (by simp [results, Tryz.results14, go_sem, *]; try rfl) rfl ?_
    exact ⟨rfl, by rw [hX]; repeat (first | exact hB | refine below_set ?_ (by omega))⟩

end Go.Proofs.YtejhngkbkcalaaaGreatDoor
