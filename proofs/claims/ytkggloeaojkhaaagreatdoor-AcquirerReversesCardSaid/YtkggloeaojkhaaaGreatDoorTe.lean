/- A sale that times out, on data (plain). -/
import Derived.Test.YtkggloeaojkhaaaGreatDoorTd
import Derived.Test.YtkggloeaojkhaaaGreatDoorPq
namespace Go.Proofs.YtkggloeaojkhaaaGreatDoor
open Go.RowKit
theorem kind_ref (a b c : Nat) : kindB 1 (refS a b c) = true := by
 have hP : ∀ d : Nat, d < 10 → kOk 1 (UInt8.ofNat (48 + d)) = true := by decide
 unfold kindB allS
 rw [refS_list]
 unfold refL
 rw [List.all_append, List.all_append, digW_all _ hP, digW_all _ hP, digW_all _ hP]
 rfl
theorem chk_ref (a b c : Nat) : chkC 37 (refS a b c) = 0 ∧ chkC 56 (refS a b c) = 0 := by
 have e1 : chkC 37 (refS a b c) = chkK 8 (refS a b c) := by unfold chkC; rw [show rowOf 37 = some 8 by decide]
 have e2 : chkC 56 (refS a b c) = chkK 18 (refS a b c) := by unfold chkC; rw [show rowOf 56 = some 18 by decide]
 rw [e1, e2]
 unfold chkK
 rw [refS_size, show dKind 8 = 1 from rfl, show dKind 18 = 1 from rfl, kind_ref]
 exact ⟨rfl, rfl⟩
/-- The elements of the reversal, and of its acknowledgement. -/
def rvEs (r1 r2 : ByteArray) : List El := [(2, awP.car), (4, digS 12 1000), (11, digS 6 2), (32, awN), (37, r2), (49, awP.cur), (56, r1)]
def rvRe (r1 r2 : ByteArray) : List El := [(2, awP.car), (4, digS 12 1000), (11, digS 6 2), (32, awN), (37, r2), (39, ⟨#[48, 48]⟩), (49, awP.cur), (56, r1)]
theorem chk_rest : chkC 2 awP.car = 0 ∧ chkC 4 (digS 12 1000) = 0 ∧ chkC 11 (digS 6 2) = 0 ∧ chkC 32 awN = 0 ∧ chkC 49 awP.cur = 0 ∧ chkC 39 ⟨#[48, 48]⟩ = 0 := ⟨by kernel_rfl, by kernel_rfl, by kernel_rfl, by kernel_rfl, by kernel_rfl, by kernel_rfl⟩
theorem rv_chk {r1 r2 : ByteArray} (h1 : chkC 56 r1 = 0) (h2 : chkC 37 r2 = 0) : mchk 420 (rvEs r1 r2) = 0 ∧ mchk 430 (rvRe r1 r2) = 0 := by
 obtain ⟨c1, c2, c3, c4, c5, c6⟩ := chk_rest
 have e1 : errL (rvEs r1 r2) = 0 := by unfold rvEs; simp only [errL, c1, c2, c3, c4, c5, h1, h2, ne_eq, not_true_eq_false, if_false]
 have e2 : errL (rvRe r1 r2) = 0 := by unfold rvRe; simp only [errL, c1, c2, c3, c4, c5, c6, h1, h2, ne_eq, not_true_eq_false, if_false]
 have a1 : ascB (rvEs r1 r2) = true := by kernel_rfl
 have a2 : ascB (rvRe r1 r2) = true := by kernel_rfl
 have b1 : reqB 420 (rvEs r1 r2) = true := by kernel_rfl
 have b2 : reqB 430 (rvRe r1 r2) = true := by kernel_rfl
 exact ⟨by rw [mchk_req (by decide) a1 e1, b1]; rfl, by rw [mchk_req (by decide) a2 e2, b2]; rfl⟩
theorem rv_rep (r1 r2 : ByteArray) : repL 420 (rvEs r1 r2) ⟨#[48, 48]⟩ = rvRe r1 r2 ∧ repE 420 ⟨#[48, 48]⟩ = 0 ∧ repT 420 ⟨#[48, 48]⟩ = 430 := ⟨by kernel_rfl, by kernel_rfl, by kernel_rfl⟩
/-- The day's number. -/
def dnm (n : Int) : Nat := (n / 86400).toNat
def rR1 (A : Int) : ByteArray := refS (dnm A) 3 1
def rR2 (n : Int) : ByteArray := refS (dnm n) 3 2
def rS (A T : Int) : SaleD := newSale (rR1 A) awP (A + T)
def rD1 (A T R : Int) (now : Int) : HostD := { hostNew awN 3 T R with now := now, last := 1, sales := [rS A T] }
def rTx (A n : Int) : ByteArray := encMS 420 (rvEs (rR1 A) (rR2 n))
/-- The host from the first Poll on that returns the reversal. -/
def rE (A T R n due tries now : Int) : HostD := { hostNew awN 3 T R with now := now, last := 2, sales := [revSale (rS A T)], q := ⟨R, [(rR2 n).data.toList], [⟨rR2 n, rTx A n, due, tries⟩]⟩ }
def rF (A T R n now : Int) : HostD := { hostNew awN 3 T R with now := now, last := 2, sales := [revSale (rS A T)], q := ⟨R, [(rR2 n).data.toList], []⟩ }
theorem day_ok {n : Int} (h : 0 ≤ n ∧ n < 8640000000) : dayV n = (n / 86400, n % 86400) := by unfold dayV; rw [if_pos h]
theorem perm_ok {d : HostD} {n : Int} (h : 0 ≤ n ∧ n < 8640000000) (h2 : d.now ≤ n) : permB d n = true := by
 unfold permB
 rw [day_ok h]
 have : 0 ≤ n / 86400 := by omega
 simp [this, h2]
theorem chkP_aw : chkP awP = 0 := by kernel_rfl
theorem pur_eq (A T R : Int) (hA : 0 ≤ A ∧ A < 8640000000) : ∃ es, purV (hostNew awN 3 T R) A awP = (rD1 A T R A, rR1 A, 100, es, 0) := by
 refine ⟨reqEs awN A.toNat 1 (rR1 A) awP, ?_⟩
 unfold purV
 rw [if_neg (by rw [chkP_aw]; decide), if_neg (by rw [perm_ok hA (by exact hA.1)]; decide), if_neg (by show ¬ 256 ≤ 0; decide), day_ok hA]
 rfl
theorem next1 (A T R now : Int) : hNextV (rD1 A T R now) = (A + T, true) := by
 show nxtStep (0, false) (rS A T) = _
 unfold nxtStep
 rw [if_pos ⟨rfl, Or.inl rfl⟩]
 rfl
theorem polV_nil (R : Int) (ks : List (List UInt8)) (at' : Int) : polV ⟨R, ks, []⟩ at' = (⟨R, ks, []⟩, []) := by unfold polV; split <;> rfl
theorem poll0 (A T R n now : Int) (h : 0 ≤ n ∧ n < 8640000000) (h2 : now ≤ n) (h3 : n < A + T) : pollV (rD1 A T R now) n = (rD1 A T R n, []) := by
 have e : revK { rD1 A T R now with now := n } n 1 = rD1 A T R n := by
  show (if (rS A T).st = 1 ∧ (rS A T).dl ≤ n then revV { rD1 A T R now with now := n } 0 (rS A T) n else _) = _
  rw [if_neg (by intro hh; have h4 : A + T ≤ n := hh.2; omega)]
  rfl
 unfold pollV
 rw [if_neg (by rw [perm_ok h (by exact h2)]; decide), show (rD1 A T R now).sales.length = 1 from rfl, e, show (rD1 A T R n).q = ⟨R, [], []⟩ from rfl, polV_nil]
 rfl
theorem rv_dec (A n : Int) (it : Int) : decOut ⟨rR2 n, rTx A n, it⟩ = [(420, rvEs (rR1 A) (rR2 n))] := by
 have h := dec_enc 420 (rvEs (rR1 A) (rR2 n)) (rv_chk (chk_ref _ _ _).2 (chk_ref _ _ _).1).1 (rTx A n) [] (by rw [List.append_nil]; rfl)
 rw [if_pos rfl] at h
 unfold decOut
 simp only
 rw [h]
 rfl
theorem tx_len (A n : Int) : (rTx A n).size ≤ 4000 := by
 unfold rTx
 rw [← len_list]
 show (encM 420 (rvEs (rR1 A) (rR2 n))).length ≤ 4000
 unfold encM
 split
 · rw [List.length_append, List.length_append]
   have h1 := encEs_len (rvEs (rR1 A) (rR2 n))
   rw [show (rvEs (rR1 A) (rR2 n)).length = 7 from rfl] at h1
   have h2 : (bmL (bof (numsL (rvEs (rR1 A) (rR2 n))) (0, 0)).1 (bof (numsL (rvEs (rR1 A) (rR2 n))) (0, 0)).2).length ≤ 32 := by have := bmS_size (bof (numsL (rvEs (rR1 A) (rR2 n))) (0, 0)).1 (bof (numsL (rvEs (rR1 A) (rR2 n))) (0, 0)).2; rw [← len_list] at this; exact this
   have h3 : (dig4 (420 : Int).toNat).length = 4 := rfl
   omega
 · simp
theorem poll1 (A T R n now : Int) (h : 0 ≤ n ∧ n < 8640000000) (h2 : now ≤ n) (h3 : A + T ≤ n) : pollV (rD1 A T R now) n = (rE A T R n (n + R) 1 n, [(420, rvEs (rR1 A) (rR2 n))]) := by
 have hm := (rv_chk (r1 := rR1 A) (r2 := rR2 n) (chk_ref _ _ _).2 (chk_ref _ _ _).1).1
 have e : revK { rD1 A T R now with now := n } n 1 = rE A T R n n 0 n := by
  show (if (rS A T).st = 1 ∧ (rS A T).dl ≤ n then revV { rD1 A T R now with now := n } 0 (rS A T) n else _) = _
  rw [if_pos ⟨rfl, h3⟩]
  unfold revV
  rw [day_ok h, if_neg (by show ¬ (n / 86400 < 0); omega)]
  have hq : revQ { rD1 A T R now with now := n } (rS A T) n = ⟨R, [(rR2 n).data.toList], [⟨rR2 n, rTx A n, n, 0⟩]⟩ := by
   unfold revQ
   rw [day_ok h]
   show (if mchk 420 (rvEs (rR1 A) (rR2 n)) = 0 then (putV ⟨R, [], []⟩ n (rR2 n) (rTx A n)).1 else _) = _
   rw [if_pos hm]
   unfold putV
   have hs : (rR2 n).size = 12 := refS_size _ _ _
   have ht : timeB n = true := by unfold timeB; simp; omega
   have hx := tx_len A n
   rw [if_neg (by omega), if_neg (by omega), if_neg (by rw [ht]; decide), if_neg (by simp), if_neg (by simp)]
   rfl
  rw [hq]
  rfl
 unfold pollV
 have ht : timeB n = true := by unfold timeB; simp; omega
 have hp : polV ⟨R, [(rR2 n).data.toList], [⟨rR2 n, rTx A n, n, 0⟩]⟩ n = (⟨R, [(rR2 n).data.toList], [⟨rR2 n, rTx A n, n + R, 1⟩]⟩, [⟨rR2 n, rTx A n, 1⟩]) := by
  unfold polV
  rw [if_neg (by rw [ht]; decide)]
  simp only [List.map_cons, List.map_nil, List.flatMap_cons, List.flatMap_nil, polIt, polOut, Int.lt_irrefl, if_false, List.append_nil, show wrap64 (0 + 1) = 1 by kernel_rfl]
 rw [if_neg (by rw [perm_ok h (by exact h2)]; decide), show (rD1 A T R now).sales.length = 1 from rfl, e, show (rE A T R n n 0 n).q = ⟨R, [(rR2 n).data.toList], [⟨rR2 n, rTx A n, n, 0⟩]⟩ from rfl, hp]
 simp only [List.flatMap_cons, List.flatMap_nil, List.append_nil, rv_dec]
 rfl
theorem revE (A T R n due tries now at' : Int) : revK { rE A T R n due tries now with now := at' } at' 1 = rE A T R n due tries at' := by
 show (if (revSale (rS A T)).st = 1 ∧ (revSale (rS A T)).dl ≤ at' then revV { rE A T R n due tries now with now := at' } 0 (revSale (rS A T)) at' else _) = _
 rw [if_neg (by intro hh; have h4 : (4 : Int) = 1 := hh.1; omega)]
 rfl
theorem poll2 (A T R n due tries now at' : Int) (h : 0 ≤ at' ∧ at' < 8640000000) (h2 : now ≤ at') (h3 : at' < due) : pollV (rE A T R n due tries now) at' = (rE A T R n due tries at', []) := by
 unfold pollV
 have ht : timeB at' = true := by unfold timeB; simp; omega
 have hp : polV ⟨R, [(rR2 n).data.toList], [⟨rR2 n, rTx A n, due, tries⟩]⟩ at' = (⟨R, [(rR2 n).data.toList], [⟨rR2 n, rTx A n, due, tries⟩]⟩, []) := by
  unfold polV
  rw [if_neg (by rw [ht]; decide)]
  simp only [List.map_cons, List.map_nil, List.flatMap_cons, List.flatMap_nil, polIt, polOut, if_pos h3, List.append_nil]
 rw [if_neg (by rw [perm_ok h (by exact h2)]; decide), show (rE A T R n due tries now).sales.length = 1 from rfl, revE, show (rE A T R n due tries at').q = ⟨R, [(rR2 n).data.toList], [⟨rR2 n, rTx A n, due, tries⟩]⟩ from rfl, hp]
 rfl
theorem poll3 (A T R n due tries now at' : Int) (h : 0 ≤ at' ∧ at' < 8640000000) (h2 : now ≤ at') (h3 : due ≤ at') : pollV (rE A T R n due tries now) at' = (rE A T R n (at' + R) (wrap64 (tries + 1)) at', [(420, rvEs (rR1 A) (rR2 n))]) := by
 unfold pollV
 have ht : timeB at' = true := by unfold timeB; simp; omega
 have h4 : ¬ at' < due := by omega
 have hp : polV ⟨R, [(rR2 n).data.toList], [⟨rR2 n, rTx A n, due, tries⟩]⟩ at' = (⟨R, [(rR2 n).data.toList], [⟨rR2 n, rTx A n, at' + R, wrap64 (tries + 1)⟩]⟩, [⟨rR2 n, rTx A n, wrap64 (tries + 1)⟩]) := by
  unfold polV
  rw [if_neg (by rw [ht]; decide)]
  simp only [List.map_cons, List.map_nil, List.flatMap_cons, List.flatMap_nil, polIt, polOut, if_neg h4, List.append_nil]
 rw [if_neg (by rw [perm_ok h (by exact h2)]; decide), show (rE A T R n due tries now).sales.length = 1 from rfl, revE, show (rE A T R n due tries at').q = ⟨R, [(rR2 n).data.toList], [⟨rR2 n, rTx A n, due, tries⟩]⟩ from rfl, hp]
 simp only [List.flatMap_cons, List.flatMap_nil, List.append_nil, rv_dec]
 rfl
theorem saleE (A T R n due tries now : Int) : sIx (rR1 A).data.toList (refsOf (rE A T R n due tries now)) = some 0 := by
 show (if _ then some 0 else _) = some 0
 exact if_pos rfl
theorem ackE (A T R n due tries now : Int) : acknV (rE A T R n due tries now) (rvRe (rR1 A) (rR2 n)) = (rF A T R n now, 0) := by
 have hg : getS 37 (rvRe (rR1 A) (rR2 n)) = rR2 n := rfl
 unfold acknV
 rw [hg, if_pos (by show _ ∈ [(rR2 n).data.toList]; exact List.mem_cons_self)]
 have ha : ackV (rE A T R n due tries now).q (rR2 n) = (⟨R, [(rR2 n).data.toList], []⟩, 0) := by
  show ackV ⟨R, [(rR2 n).data.toList], [⟨rR2 n, rTx A n, due, tries⟩]⟩ (rR2 n) = _
  have hi : fwIdx (rR2 n) 0 [⟨rR2 n, rTx A n, due, tries⟩] = 0 := by unfold fwIdx; exact if_pos rfl
  unfold ackV
  simp only [hi]
  rfl
 rw [ha]
 rfl
theorem ackF (A T R n now : Int) : acknV (rF A T R n now) (rvRe (rR1 A) (rR2 n)) = (rF A T R n now, 0) := by
 have hg : getS 37 (rvRe (rR1 A) (rR2 n)) = rR2 n := rfl
 unfold acknV
 rw [hg, if_pos (by show _ ∈ [(rR2 n).data.toList]; exact List.mem_cons_self)]
 rfl
theorem recE (A T R n due tries now at' : Int) (h : 0 ≤ at' ∧ at' < 8640000000) (h2 : now ≤ at') : recV (rE A T R n due tries now) at' 430 (rvRe (rR1 A) (rR2 n)) = (rF A T R n at', 0) := by
 have hm := (rv_chk (r1 := rR1 A) (r2 := rR2 n) (chk_ref _ _ _).2 (chk_ref _ _ _).1).2
 have h0 : recV0 (rE A T R n due tries now) at' 430 (rvRe (rR1 A) (rR2 n)) = (rF A T R n now, 0) := by
  unfold recV0
  rw [if_neg (by decide)]
  exact ackE A T R n due tries now
 unfold recV
 rw [if_neg (by rw [hm]; decide), if_neg (by decide), if_neg (by rw [perm_ok h (by exact h2)]; decide), h0, if_pos rfl]
 rfl
theorem recF (A T R n now at' : Int) (h : 0 ≤ at' ∧ at' < 8640000000) (h2 : now ≤ at') : recV (rF A T R n now) at' 430 (rvRe (rR1 A) (rR2 n)) = (rF A T R n at', 0) := by
 have hm := (rv_chk (r1 := rR1 A) (r2 := rR2 n) (chk_ref _ _ _).2 (chk_ref _ _ _).1).2
 have h0 : recV0 (rF A T R n now) at' 430 (rvRe (rR1 A) (rR2 n)) = (rF A T R n now, 0) := by
  unfold recV0
  rw [if_neg (by decide)]
  exact ackF A T R n now
 unfold recV
 rw [if_neg (by rw [hm]; decide), if_neg (by decide), if_neg (by rw [perm_ok h (by exact h2)]; decide), h0, if_pos rfl]
 rfl
theorem nextF (A T R n now : Int) : (hNextV (rF A T R n now)).2 = false := by
 show (nxtStep (0, false) (revSale (rS A T))).2 = false
 unfold nxtStep
 rw [if_neg (by intro hh; have h4 : (4 : Int) = 1 := hh.1; omega)]
theorem pollF (A T R n now at' : Int) (h : 0 ≤ at' ∧ at' < 8640000000) (h2 : now ≤ at') : (pollV (rF A T R n now) at').2 = [] := by
 have e : revK { rF A T R n now with now := at' } at' 1 = rF A T R n at' := by
  show (if (revSale (rS A T)).st = 1 ∧ (revSale (rS A T)).dl ≤ at' then revV { rF A T R n now with now := at' } 0 (revSale (rS A T)) at' else _) = _
  rw [if_neg (by intro hh; have h4 : (4 : Int) = 1 := hh.1; omega)]
  rfl
 unfold pollV
 rw [if_neg (by rw [perm_ok h (by exact h2)]; decide), show (rF A T R n now).sales.length = 1 from rfl, e, show (rF A T R n at').q = ⟨R, [(rR2 n).data.toList], []⟩ from rfl, polV_nil]
 rfl
end Go.Proofs.YtkggloeaojkhaaaGreatDoor
