/- The walk of the law MessageDecodes. -/
import Derived.Test.YthokhncdpfaifaaGreatDoorMsgF
namespace Go.Proofs.YthokhncdpfaifaaGreatDoor
open Go.RowKit
/-- What every law's walk ends in. -/
def LawPost (w : World) (e : Ending) (w' : World) : Prop := e = .returned (.bool true) ∧ Ext w w'
theorem same_self (t : Int) (es : List El) : sameB t t es es = true := by unfold sameB; simp
theorem decEs_len : ∀ (l : List Int) (acc : List El) (r : ByteArray), (decEs l acc r).2.1.length ≤ acc.length + l.length
  | [], acc, r => by simp [decEs]
  | n :: l, acc, r => by
    rw [decEs]
    split
    · simp
    · have := decEs_len l (acc ++ [(n, decV n r)]) (decR n r)
      simp at this ⊢; omega
theorem decW_len (s : ByteArray) : (decW s).2.2.length ≤ 200 := by
  unfold decW
  split
  · simp
  split
  · simp
  split
  · simp
  split
  · simp
  split
  · simp
  split
  · simp
  · have h1 := decEs_len (blist (bmA (bmT s)) (bmB (bmT s)) 129) [] (rsT s)
    have h2 := blist_len (bmA (bmT s)) (bmB (bmT s)) 129
    have h3 : ([] : List El).length = 0 := rfl
    show (dR s).2.1.length ≤ 200
    unfold dR
    omega
set_option maxRecDepth 8000 in
set_option maxHeartbeats 2000000 in
theorem law_decodes (s : ByteArray) (w : World) (g : Gl w) (hs : s.size ≤ 9223372036854775807) : Calls Tryz.prog 4 #[.string s] w (LawPost w) := by
  by_cases h : s.size ≤ 3000
  · have h' : ¬ (3000 : Int) < s.size := by omega
    have hln := decW_len s
    have hP1 := Lib.hid (mdecode_any s)
    have hP2 := Lib.hid (rmdecode_any s)
    go_enter Tryz.func4, Tryz.ntmps4
    go_wp2_with fail
    refine (hP1.out _ g (by omega)).mono ?_
    rintro e w1 ⟨v1, rfl, hv1, hE1⟩
    clear hP1
    have hV1 := Lib.hid hv1
    obtain ⟨p1, c1, rfl⟩ := elems_form hv1
    clear hv1
    unfold msgAgg
    go_wp2_with fail
    refine (hP2.out _ (by omega)).mono ?_
    rintro e w2 ⟨v2, rfl, hv2, hE2⟩
    have hV2 := Lib.hid hv2
    obtain ⟨p2, c2, rfl⟩ := elems_form hv2
    clear hv2 hP2
    unfold msgAgg
    generalize (decW s).1 = dc at *
    generalize (decW s).2.1 = dt at *
    generalize (decW s).2.2 = de at *
    have hB1 := (Blk.new w1 #[.int .i64 dt, .slice p1 de.length c1] 24).ext hE2
    have z0 := hB1.cell 0
    have z1 := hB1.cell 1
    have hlt := hB1.lt
    simp at z0 z1
    have hE12 : Ext w1 w2 := ((Ext.refl w1).alloc _).trans hE2
    have hV12 := Lib.hid (hV1.out.ext hE12)
    have hE02 := hE1.trans hE12
    clear hE2 hE12 hV1 hE1
    go_wp2_with fail
    refine (rSame_any dt dt _ _ de de _ (hV12.out.ext ((Ext.refl w2).alloc _)) (hV2.out.ext ((Ext.refl w2).alloc _)) (by omega) (by omega)).mono ?_
    rintro e w3 ⟨rfl, hE3⟩
    rw [same_self]
    have hE03 := (hE02.alloc _).trans hE3
    clear hE3
    go_wp2_with fail
    refine (awake_any _ (g.ext hE03)).mono ?_
    rintro e w4 ⟨rfl, hE4⟩
    have hE04 := hE03.trans hE4
    clear hE4
    go_wp2
    go_ret
    exact ⟨rfl, hE04⟩
  · have h' : (3000 : Int) < s.size := by omega
    go_enter Tryz.func4, Tryz.ntmps4
    go_wp2_with fail
    refine (awake_any _ g).mono ?_
    rintro e w4 ⟨rfl, hE⟩
    go_wp2
    go_ret
    exact ⟨rfl, hE⟩
end Go.Proofs.YthokhncdpfaifaaGreatDoor
