/- What a new engine, and one behind a Record, keeps to (printed by gen/h49.py h). -/
import Derived.Test.YtangdoidkcelfaaGreatDoorNg
import Derived.Test.YtangdoidkcelfaaGreatDoorNu
namespace Go.Proofs.YtangdoidkcelfaaGreatDoor
open Go.RowKit Go.Sort
theorem frN_range : ∀ (l : List FrR) (b : List ByteArray), frN b l = 0 → ∀ r ∈ l, 0 ≤ r.act ∧ r.act ≤ 2 ∧ 0 ≤ r.score ∧ r.score ≤ 1000
 | [], _, _, r, hr => by cases hr
 | x :: l, b, h, r, hr => by
  unfold frN at h
  split at h
  · cases h
  · split at h
    · cases h
    · split at h
      · cases h
      · rename_i h3
        rcases List.mem_cons.1 hr with rfl | hr
        · omega
        · exact frN_range l _ h r hr
theorem win_short {x : Ex} (h : x.formed = true) : ∀ s ∈ x.wins, s.length ≤ 16 := by
 intro s hs
 obtain ⟨y, hy, hs⟩ := List.mem_flatMap.1 hs
 have hf := formed_parts x h y hy
 unfold win1 at hs
 split at hs
 · rename_i ho
   simp only [List.mem_cons, List.not_mem_nil, or_false] at hs
   subst hs
   have h1 : nameB y.name = true := by
    unfold hasF hasFv at hf
    rw [if_neg (by omega), if_neg (by omega), if_neg (by omega), if_pos ho] at hf
    simp only [Bool.and_eq_true] at hf
    exact hf.1.1.1.1
   have h2 := nameB_size h1
   unfold bts
   rw [Array.length_toList]
   exact h2
 · cases hs
theorem track_short {l : List FrR} (h : ∀ r ∈ l, r.when.formed = true) : ∀ s ∈ trackV l, s.length ≤ 16 := by
 intro s hs
 unfold trackV at hs
 rw [mem_uniL] at hs
 obtain ⟨r, hr, hs⟩ := List.mem_flatMap.1 hs
 rw [mem_uniL] at hs
 exact win_short (h r hr) s hs
theorem newOk {l : List FrR} {refer decline : Int} (h : frE l refer decline = 0) : EngOk (newV l refer decline) := by
 obtain ⟨h1, -, h3, h4⟩ := frE_formed h
 exact ⟨horV_bd h4, by simp [newV], fun u hu => by simp [newV] at hu, track_short h4, h1, frN_range l [] h3⟩
theorem newHor {l : List FrR} {refer decline : Int} (h : frE l refer decline = 0) : 1 ≤ (newV l refer decline).hor ∧ (newV l refer decline).hor ≤ 10000000 := horV_bd (frE_formed h).2.2.2
theorem EngOk.vo {d : EngD} (h : EngOk d) : VelOk d.vel := ⟨h.hor, h.few, h.amt⟩
theorem addV_keep (d : EngD) (now : Int) (ks : List ByteArray) (amt : Int) : (addV d now ks amt).1.hor = d.hor ∧ (addV d now ks amt).1.names = d.names ∧ (addV d now ks amt).1.rules = d.rules ∧ (addV d now ks amt).1.refer = d.refer ∧ (addV d now ks amt).1.decline = d.decline := by
 unfold addV
 repeat' split
 all_goals exact ⟨rfl, rfl, rfl, rfl, rfl⟩
theorem addV_ok2 {d : EngD} {now : Int} {ks : List ByteArray} {amt : Int} (h : EngOk d) : EngOk (addV d now ks amt).1 := by
 have hv : VelOk (addV d now ks amt).1.vel := by
  unfold addV
  split
  · exact h.vo
  · split
    · exact h.vo
    · split
      · exact h.vo
      · split
        · exact h.vo
        · split
          · exact h.vo
          · have h2 := (velK_ok now amt ks h.vo ks.length).1
            unfold velK at h2
            rw [List.take_length] at h2
            exact h2
 obtain ⟨-, k2, k3, -, -⟩ := addV_keep d now ks amt
 exact ⟨hv.hor, hv.few, hv.amt, by rw [k2]; exact h.names, by rw [k3]; exact h.rules, by rw [k3]; exact h.range⟩
theorem EngOk.ns {d : EngD} (h : EngOk d) : ∀ s ∈ d.names, s.length ≤ 1000000 := fun s hs => Nat.le_trans (h.names s hs) (by omega)
end Go.Proofs.YtangdoidkcelfaaGreatDoor
