/- acquirer's Batch: data, and the contract (walk; printed by gen/h92.py). -/
import Derived.Test.YtkggloeaojkhaaaGreatDoorPz
import Derived.StillTailTactics
namespace Go.Proofs.YtkggloeaojkhaaaGreatDoor
open Go.RowKit
def recCells (e : EntD) : List Value := [.int .i64 e.kind, .string e.id, .string e.auth, .string e.acq, .string e.iss, .string e.mer, .string e.car, .int .i64 e.amt, .string e.cur, .int .i64 e.date, .int .i64 e.cat, .bool e.fin]
def recL : Lay EntD := ⟨recCells, 12, by decide, fun _ => rfl⟩
def updE (f : List UInt8 → Option EntD) (e : EntD) : List UInt8 → Option EntD := fun s => if s = e.id.data.toList then some e else f s
def filedAdd (f : List UInt8 → Option EntD) (l : List EntD) : List UInt8 → Option EntD := l.foldl updE f
theorem filedAdd_snoc (f : List UInt8 → Option EntD) (l : List EntD) (x : EntD) : filedAdd f (l ++ [x]) = updE (filedAdd f l) x := by simp [filedAdd]
/-- The host when k of the records lie in the file. -/
def batK (d : HostD) (k : Nat) : HostD := { d with files := d.files + 1, filed := filedAdd d.filed (d.wt.take k), nfiled := d.nfiled + k }
def batN (d : HostD) : Nat := min d.wt.length 200
def batH (d : HostD) : HostD := { batK d (batN d) with wt := d.wt.drop (batN d) }
def batId (d : HostD) (date : Int) : ByteArray := (⟨#[70]⟩ ++ itoaS date) ++ ⟨#[45]⟩ ++ itoaS (d.files + 1)
def batE (d : HostD) (date : Int) : Int := if date < 0 ∨ 99999 < date then 14 else if d.wt.length = 0 then 6 else 0
def HBatP (B : Nat) (I : HostI) (d : HostD) (date : Int) (w : World) (e : Ending) (w' : World) : Prop :=
 if batE d date ≠ 0 then e = .returned (.tuple #[.agg #[.string ⟨#[]⟩, .string ⟨#[]⟩, .int .i64 0, .slice none 0 0], .int .i64 (batE d date)]) ∧ Ext w w'
 else ∃ v, e = .returned (.tuple #[.agg #[.string (batId d date), .string d.name, .int .i64 date, v], .int .i64 0]) ∧ RowR recL 113 w' w.heap.size v (d.wt.take (batN d)) ∧ HostM w' B I (batH d) ∧ Chg (HF B I w) w w'
theorem bat_bad {B : Nat} {I : HostI} {d : HostD} {date : Int} {w : World} (c : Int) (hc : batE d date = c) (h0 : c ≠ 0) : ∀ w', Ext w w' → HBatP B I d date w (.returned (.tuple #[.agg #[.string ⟨#[]⟩, .string ⟨#[]⟩, .int .i64 0, .slice none 0 0], .int .i64 c])) w' := by
 intro w' hE
 unfold HBatP
 rw [hc, if_pos h0]
 exact ⟨rfl, hE⟩
/-- When k of the records lie in the file. -/
structure BatS (w : World) (B : Nat) (I : HostI) (bs : List Nat) (sv wv : Value) (d : HostD) (date : Int) (pb : Nat) (j k : Nat) (vk : Value) (wr : World) : Prop where
 x : HostX wr B I bs sv wv (batK d j)
 v : Blk wr pb #[.string (batId d date), .string d.name, .int .i64 date, vk] 107
 r : RowR recL 113 wr w.heap.size vk (d.wt.take k)
 o : Blk wr w.heap.size #[.string ⟨#[]⟩, .string ⟨#[]⟩, .int .i64 0, .slice none 0 0] 107
 l : w.heap.size < pb
 c : Chg (HF B I w) w wr
theorem BatS.ext {w : World} {B : Nat} {I : HostI} {bs : List Nat} {sv wv : Value} {d : HostD} {date : Int} {pb j k : Nat} {vk : Value} {wr w' : World} (h : BatS w B I bs sv wv d date pb j k vk wr) (e : Ext wr w') : BatS w B I bs sv wv d date pb j k vk w' := ⟨h.x.ext e, h.v.ext e, h.r.ext e, h.o.ext e, h.l, h.c.ext e⟩
theorem chg_up {F : Nat → Prop} {a b c : World} {ts : List TypeId} {ms : List Nat} (h : Chg F a b) (k : Chg (Typ ts ms a.heap.size b) b c) : Chg F a c :=
 ⟨k.os.trans h.os, k.tape.trans h.tape, k.output.trans h.output, Nat.le_trans h.size k.size, fun i hi hf => by rw [k.block i (Nat.lt_of_lt_of_le hi h.size) (fun hT => by have := hT.1; omega)]; exact h.block i hi hf⟩
theorem take_one {l : List EntD} {k : Nat} {x : EntD} (hx : l[k]? = some x) : l.take (k + 1) = l.take k ++ [x] := by rw [List.take_add_one, hx]; rfl
theorem take_len {l : List EntD} {k : Nat} {x : EntD} (hx : l[k]? = some x) : (l.take k).length = k := by
 have := (List.getElem?_eq_some_iff.1 hx).1
 rw [List.length_take]
 omega
theorem ent_cells {w : World} {B g off n c : Nat} {l : List EntD} (h : RowR entL 159 w B (.slice (some ⟨g, off, none⟩) n c) l) {k : Nat} {x : EntD} (hx : l[k]? = some x) (j : Nat) (u : Value) (hu : (entCells x)[j]? = some u) : w.cell? ⟨g, off + k * 13 + j, none⟩ = some u := by
 rcases h.lie with ⟨h1, -⟩ | ⟨g', off', cap', h1, -, -, -, -, -, h7⟩
 · cases h1
 · cases h1
   exact h7 k x hx j u hu
theorem BatS.push {w : World} {B : Nat} {I : HostI} {bs : List Nat} {sv wv : Value} {d : HostD} {date : Int} {pb k : Nat} {vp p' : Option Addr} {vc c' : Nat} {wr w5 : World} {C1 C2 : Array Value} (h : BatS w B I bs sv wv d date pb k k (.slice vp k vc) wr) (x : EntD) (hx : d.wt[k]? = some x) (hk : k < 1000000)
 (hg : ((wr.alloc (.cells C1 159)).alloc (.cells C2 113)).grownBy w5 (Value.ownBlock (.slice vp k vc))) (hown : OwnC w5 w.heap.size 113 12 (.slice p' (k + 1) c') (k + 1) (recL.flat (d.wt.take k) ++ recCells x)) :
 BatS w B I bs sv wv d date pb k (k + 1) (.slice p' (k + 1) c') (w5.setCell ⟨pb, 3, none⟩ (.slice p' (k + 1) c')) ∧ Blk (w5.setCell ⟨pb, 3, none⟩ (.slice p' (k + 1) c')) wr.heap.size C1 159 ∧ (w5.frozen? ⟨pb, 3, none⟩ = false ∧ (∃ u, w5.cell? ⟨pb, 3, none⟩ = some u) ∧ pb < w5.heap.size) := by
 have hE : Ext wr ((wr.alloc (.cells C1 159)).alloc (.cells C2 113)) := ((Ext.refl _).alloc _).alloc _
 have h1 := h.ext hE
 have b9 : Blk ((wr.alloc (.cells C1 159)).alloc (.cells C2 113)) wr.heap.size C1 159 := (Blk.new wr C1 159).alloc _
 have hC : Chg (fun j => Value.ownBlock (.slice vp k vc) = some j) ((wr.alloc (.cells C1 159)).alloc (.cells C2 113)) w5 := (Chg.ofGrown hg).mono fun _ _ e => e.symm
 have hT : Chg (Typ [113] [] w.heap.size ((wr.alloc (.cells C1 159)).alloc (.cells C2 113))) ((wr.alloc (.cells C1 159)).alloc (.cells C2 113)) w5 := hC.mono fun i _ e => by
  obtain ⟨h2, -, cs, hcs⟩ := h1.r.blk e
  exact Typ.of hcs h2 (by simp)
 have pb5 := Typ.blk h1.v hT (by decide)
 have hS : Chg (fun j => j = pb) w5 (w5.setCell ⟨pb, 3, none⟩ (.slice p' (k + 1) c')) := Chg.setCell (F := fun j => j = pb) (Chg.refl _ _) (p := ⟨pb, 3, none⟩) (Or.inl rfl) _
 have hU : Chg (Typ [107] [] w.heap.size w5) w5 (w5.setCell ⟨pb, 3, none⟩ (.slice p' (k + 1) c')) := hS.mono fun i _ e => by subst e; exact Typ.of pb5 (Nat.le_of_lt h.l) (by simp)
 have hlen := take_len hx
 have rr : RowR recL 113 w5 w.heap.size (.slice p' (k + 1) c') (d.wt.take (k + 1)) := by
  rw [take_one hx]
  have := RowR.push (L := recL) (T := 113) (l := d.wt.take k) (x := x) (w' := w5) (B := w.heap.size) (v := .slice p' (k + 1) c') (by omega) (by rw [hlen]; exact hown)
  exact this
 have hlt := h.l
 exact ⟨⟨(h1.x.away hT (by decide) (by simp)).away hU (by decide) (by simp), pb5.set 3 _, Typ.row rr hU (by decide), (Typ.blk h1.o hT (by decide)).chg hS (by omega), h.l, chg_up (chg_up h1.c hT) hU⟩, Typ.blk (Typ.blk b9 hT (by decide)) hU (by decide), pb5.fz 3, ⟨_, (pb5.cell 3).trans rfl⟩, pb5.lt⟩
theorem BatS.map {w : World} {B : Nat} {I : HostI} {bs : List Nat} {sv wv : Value} {d : HostD} {date : Int} {pb k : Nat} {vk : Value} {w7 w8 : World} (h : BatS w B I bs sv wv d date pb k (k + 1) vk w7) (ok : HostOk B I bs d) (x : EntD) (hx : d.wt[k]? = some x)
 (hm : SMap 9 w8 I.F ((batK d k).nfiled + 1) (updF (fun s => ((batK d k).filed s).map entAgg) x.id.data.toList (entAgg x))) (hg : w7.grownBy w8 (some I.F)) : BatS w B I bs sv wv d date pb (k + 1) (k + 1) vk w8 := by
 have hC : Chg (fun j => j = I.F) w7 w8 := (Chg.ofGrown hg).mono fun _ _ e => (by first | exact (Option.some.inj e).symm | exact Option.some.inj e)
 have hT : Chg (Typ [] [I.F] 0 w7) w7 w8 := hC.mono fun i _ e => by subst e; exact Typ.map h.x.f.isMap (Nat.zero_le _) (by simp)
 obtain ⟨m1, m2, m3, m4, m5, m6⟩ := ok.ms
 have hfe : (fun s => ((batK d (k + 1)).filed s).map entAgg) = updF (fun s => ((batK d k).filed s).map entAgg) x.id.data.toList (entAgg x) := by
  funext s
  show ((filedAdd d.filed (d.wt.take (k + 1)) s).map entAgg) = _
  rw [take_one hx, filedAdd_snoc]
  unfold updE updF
  by_cases hs : s = x.id.data.toList
  · rw [if_pos hs, if_pos hs]; rfl
  · rw [if_neg hs, if_neg hs]; rfl
 refine ⟨⟨Typ.blk h.x.h hT (by simp), h.x.s.chg hT (Typ.not h.x.s.b (by simp)), h.x.q.chg hT (by simp) (by simp) (by simp; exact fun e => m2 e.symm), Typ.row h.x.r hT (by simp), fun i b y hb hy => ⟨Typ.blk (h.x.e i b y hb hy).1 hT (by simp), (h.x.e i b y hb hy).2⟩, Typ.smap h.x.m hT (by simp; exact m4), Typ.row h.x.wt hT (by simp), ?_, Typ.smap h.x.c hT (by simp; exact fun e => m6 e.symm)⟩, Typ.blk h.v hT (by simp), Typ.row h.r hT (by simp), Typ.blk h.o hT (by simp), h.l, Typ.step h.c hC fun i _ e => by subst e; exact Typ.map h.x.f.isMap ok.bl.2.2.2.1 (by simp [hMs])⟩
 rw [hfe]
 exact hm
theorem filedAdd_ok : ∀ (l : List EntD) (f : List UInt8 → Option EntD), (∀ s x, f s = some x → EntOk x) → (∀ x ∈ l, EntOk x) → ∀ s x, filedAdd f l s = some x → EntOk x
 | [], _, hf, _, s, x, h => hf s x h
 | y :: l, f, hf, hl, s, x, h => by
  refine filedAdd_ok l (updE f y) (fun s x hx => ?_) (fun z hz => hl z (List.mem_cons_of_mem _ hz)) s x h
  unfold updE at hx
  by_cases hs : s = y.id.data.toList
  · rw [if_pos hs] at hx
    injection hx with hx
    exact hx ▸ hl y List.mem_cons_self
  · rw [if_neg hs] at hx
    exact hf s x hx
theorem HostOk.bat {B : Nat} {I : HostI} {bs : List Nat} {d : HostD} (h : HostOk B I bs d) (hfi : d.files < 1000000000) (hnf : d.nfiled ≤ 999000) : HostOk B I bs (batH d) := by
 have hn : batN d ≤ 200 := by unfold batN; omega
 have h1 := h.files
 have h2 := h.nf
 exact ⟨h.bl, h.ms, h.len, h.nd, h.rn, h.few, h.ok, fun x hx => h.eok x (List.mem_of_mem_drop hx), filedAdd_ok _ _ h.fok fun x hx => h.eok x (List.mem_of_mem_take hx), h.name, h.timeout, ⟨by show d.nfiled + batN d ≤ 1000000; omega, h2.2⟩, h.cop, by show 0 ≤ d.files + 1; omega, by show d.files + 1 ≤ 1000000000; omega⟩
/-- Behind Delete and the store of what is left. -/
theorem BatS.del {w : World} {B : Nat} {I : HostI} {bs : List Nat} {sv wv : Value} {d : HostD} {date : Int} {pb k : Nat} {vk : Value} {wr w' : World} {e : Ending} (h : BatS w B I bs sv wv d date pb k k vk wr) (ok : HostOk B I bs d) (hk : batN d = k) (hp : Del0P B wv d.wt k wr e w') :
 ∃ v', e = .returned v' ∧ w'.frozen? ⟨I.X, 7, none⟩ = false ∧ (∃ u, w'.cell? ⟨I.X, 7, none⟩ = some u) ∧ I.X < w'.heap.size ∧ (Blk w' pb #[.string (batId d date), .string d.name, .int .i64 date, vk] 107 ∧ Blk w' w.heap.size #[.string ⟨#[]⟩, .string ⟨#[]⟩, .int .i64 0, .slice none 0 0] 107 ∧ I.X ≠ pb ∧ I.X ≠ w.heap.size ∧ pb ≠ w.heap.size ∧ ∃ p2 n2 c2, v' = .slice p2 n2 c2) ∧ ∀ W, W = w'.setCell ⟨I.X, 7, none⟩ v' → HostX W B I bs sv v' (batH d) ∧ Blk W pb #[.string (batId d date), .string d.name, .int .i64 date, vk] 107 ∧ RowR recL 113 W w.heap.size vk (d.wt.take k) ∧ Blk W w.heap.size #[.string ⟨#[]⟩, .string ⟨#[]⟩, .int .i64 0, .slice none 0 0] 107 ∧ Chg (HF B I w) w W := by
 obtain ⟨v', rfl, hr, hC⟩ := hp
 have hT : Chg (Typ [159] [] 0 wr) wr w' := hC.mono fun i _ e => by
  obtain ⟨-, -, cs, hcs⟩ := h.x.wt.blk e
  exact Typ.of hcs (Nat.zero_le _) (by simp)
 have hx2 := Typ.blk h.x.h hT (by decide)
 have hlp := h.l
 refine ⟨v', rfl, hx2.fz 7, ⟨_, (hx2.cell 7).trans rfl⟩, hx2.lt, ⟨Typ.blk h.v hT (by decide), Typ.blk h.o hT (by decide), (h.x.blkNe h.v).1 (by decide), (h.x.blkNe h.o).1 (by decide), by omega, by obtain ⟨p2, c2, h2⟩ := hr.form; exact ⟨p2, _, c2, h2⟩⟩, fun W hW => ?_⟩
 have hS : Chg (fun j => j = I.X) w' W := by rw [hW]; exact Chg.setCell (F := fun j => j = I.X) (Chg.refl _ _) (p := ⟨I.X, 7, none⟩) (Or.inl rfl) _
 have hU : Chg (Typ [81] [] 0 w') w' W := hS.mono fun i _ e => by subst e; exact Typ.of hx2 (Nat.zero_le _) (by simp)
 have h1 := h.x
 refine ⟨⟨?_, ?_, (h1.q.chg hT (by decide) (by decide) (by simp)).chg hU (by decide) (by decide) (by simp), Typ.row (Typ.row h1.r hT (by decide)) hU (by decide), fun i b y hb hy => ⟨Typ.blk (Typ.blk (h1.e i b y hb hy).1 hT (by decide)) hU (by decide), (h1.e i b y hb hy).2⟩, Typ.smap (Typ.smap h1.m hT (by simp)) hU (by simp), ?_, ?_, Typ.smap (Typ.smap h1.c hT (by simp)) hU (by simp)⟩, Typ.blk (Typ.blk h.v hT (by decide)) hU (by decide), Typ.row (Typ.row h.r hT (by decide)) hU (by decide), Typ.blk (Typ.blk h.o hT (by decide)) hU (by decide), ?_⟩
 · have h3 := hx2.set 7 v'
   rw [← hW] at h3
   exact h3
 · exact (h1.s.chg hT (Typ.not h1.s.b (by decide))).chg hU (Typ.not (h1.s.b.chg hT (Typ.not h1.s.b (by decide))) (by decide))
 · have h3 := Typ.row hr hU (by decide)
   rw [← hk] at h3
   exact h3
 · have h3 := Typ.smap (Typ.smap h1.f hT (by simp)) hU (by simp)
   rw [← hk] at h3
   exact h3
 · refine Typ.step (Typ.step h.c hC fun i _ e => ?_) hS fun i _ e => ?_
   · obtain ⟨h2, -, cs, hcs⟩ := h.x.wt.blk e
     exact Typ.of hcs h2 (by decide)
   · subst e
     exact Typ.of hx2 ok.bl.1 (by decide)
theorem bat_fin {w W9 W : World} {B : Nat} {I : HostI} {bs : List Nat} {sv v' : Value} {d : HostD} {date : Int} {pb k : Nat} {vk : Value} (ok : HostOk B I bs d) (hfi : d.files < 1000000000) (hnf : d.nfiled ≤ 999000) (hk : batN d = k) (hz : batE d date = 0)
 (h : HostX W9 B I bs sv v' (batH d) ∧ Blk W9 pb #[.string (batId d date), .string d.name, .int .i64 date, vk] 107 ∧ RowR recL 113 W9 w.heap.size vk (d.wt.take k) ∧ Blk W9 w.heap.size #[.string ⟨#[]⟩, .string ⟨#[]⟩, .int .i64 0, .slice none 0 0] 107 ∧ Chg (HF B I w) w W9)
 (hW : W = (((W9.setCell ⟨w.heap.size, 0, none⟩ (.string (batId d date))).setCell ⟨w.heap.size, 1, none⟩ (.string d.name)).setCell ⟨w.heap.size, 2, none⟩ (.int .i64 date)).setCell ⟨w.heap.size, 3, none⟩ vk) :
 HBatP B I d date w (.returned (.tuple #[.agg #[.string (batId d date), .string d.name, .int .i64 date, vk], .int .i64 0])) W ∧ Blk W w.heap.size #[.string (batId d date), .string d.name, .int .i64 date, vk] 107 := by
 obtain ⟨hx, hv, hr, ho, hc⟩ := h
 have hC : Chg (fun k => k = w.heap.size) W9 W := by
  rw [hW]
  exact Chg.setCell (F := fun k => k = w.heap.size) (Chg.setCell (F := fun k => k = w.heap.size) (Chg.setCell (F := fun k => k = w.heap.size) (Chg.setCell (F := fun k => k = w.heap.size) (Chg.refl _ _) (p := ⟨w.heap.size, 0, none⟩) (Or.inl rfl) _) (p := ⟨w.heap.size, 1, none⟩) (Or.inl rfl) _) (p := ⟨w.heap.size, 2, none⟩) (Or.inl rfl) _) (p := ⟨w.heap.size, 3, none⟩) (Or.inl rfl) _
 have hT : Chg (Typ [107] [] w.heap.size W9) W9 W := hC.mono fun k _ e => by subst e; exact Typ.of ho (Nat.le_refl _) (by simp)
 have b4 := (((ho.set 0 (.string (batId d date))).set 1 (.string d.name)).set 2 (.int .i64 date)).set 3 vk
 rw [← hW] at b4
 refine ⟨?_, b4⟩
 unfold HBatP
 rw [hz, if_neg (by decide), hk]
 exact ⟨vk, rfl, Typ.row hr hT (by decide), ⟨bs, sv, v', hx.away hT (by decide) (by simp), ok.bat hfi hnf⟩, chg_up hc hT⟩
theorem infoRecA : (Tryz.prog.info? 113).map (fun i => (i.zero, i.size, i.bytes)) = some (some (.agg #[.int .i64 0, .string ⟨#[]⟩, .string ⟨#[]⟩, .string ⟨#[]⟩, .string ⟨#[]⟩, .string ⟨#[]⟩, .string ⟨#[]⟩, .int .i64 0, .string ⟨#[]⟩, .int .i64 0, .int .i64 0, .bool false]), 12, 152) := by kernel_rfl
theorem rec_one (x : EntD) : ∀ v ∈ recCells x, v.oneCell' = true := fun v hv => ent_one x v (by
 unfold recCells at hv
 unfold entCells
 simp only [List.mem_cons, List.not_mem_nil, or_false] at hv ⊢
 rcases hv with h | h | h | h | h | h | h | h | h | h | h | h <;> simp [h])
theorem slice_to {T e : TypeId} {i : TypeInfo} (hT : Tryz.prog.underlying T = some (.slice e)) (hi : Tryz.prog.info? e = some i) (g off m c n : Nat) (h : n ≤ c) (w : World) : (Instr.slice T (.slice (some ⟨g, off, none⟩) m c) none (some (.int .i64 n)) none).run Tryz.prog w = .ok (.slice (some ⟨g, off, none⟩) n c) w := by
 have a1 : (n : Int) ≤ c := by omega
 simp [Instr.slice, run_underlying hT, Instr.sliceBounds, Instr.sliceBound, asIntOf, sizeOf, typeInfo, hi, h, Addr.add_lit]
set_option maxRecDepth 8000 in
set_option maxHeartbeats 16000000 in
theorem hBat_any (B : Nat) (I : HostI) (d : HostD) (date : Int) (w : World) (g : Gl w) (hGB : GB B) (_hB : B ≤ w.heap.size) (h : HostM w B I d) (hfi : d.files < 1000000000) (hnf : d.nfiled ≤ 999000) : Calls Tryz.prog 39 #[.pointer (some ⟨I.X, 0, none⟩), .int .i64 date] w (HBatP B I d date w) := by
 obtain ⟨bs, sv, wv, hX0, ok⟩ := h
 have hX := Lib.hid hX0
 obtain ⟨p, c, rfl⟩ := hX0.wt.form
 have y0 : w.cell? ⟨I.X, 0, none⟩ = some (.string d.name) := hX0.h.cell 0
 have y7 : w.cell? ⟨I.X, 7, none⟩ = some (.slice p d.wt.length c) := hX0.h.cell 7
 have y10 : w.cell? ⟨I.X, 10, none⟩ = some (.int .i64 d.files) := hX0.h.cell 10
 have hq := ptrNe I.X
 have hlX := hX0.h.lt
 have bO := Lib.hid (Blk.new w #[.string ⟨#[]⟩, .string ⟨#[]⟩, .int .i64 0, .slice none 0 0] 107)
 have a0 : (w.alloc (.cells #[.string ⟨#[]⟩, .string ⟨#[]⟩, .int .i64 0, .slice none 0 0] 107)).cell? ⟨w.heap.size, 0, none⟩ = some (.string ⟨#[]⟩) := (bO.out.cell 0).trans rfl
 have a1 : (w.alloc (.cells #[.string ⟨#[]⟩, .string ⟨#[]⟩, .int .i64 0, .slice none 0 0] 107)).cell? ⟨w.heap.size, 1, none⟩ = some (.string ⟨#[]⟩) := (bO.out.cell 1).trans rfl
 have a2 : (w.alloc (.cells #[.string ⟨#[]⟩, .string ⟨#[]⟩, .int .i64 0, .slice none 0 0] 107)).cell? ⟨w.heap.size, 2, none⟩ = some (.int .i64 0) := (bO.out.cell 2).trans rfl
 have a3 : (w.alloc (.cells #[.string ⟨#[]⟩, .string ⟨#[]⟩, .int .i64 0, .slice none 0 0] 107)).cell? ⟨w.heap.size, 3, none⟩ = some (.slice none 0 0) := (bO.out.cell 3).trans rfl
 by_cases c0 : date < 0
 · have hend := Lib.hid (bat_bad (B := B) (I := I) (w := w) 14 (show batE d date = 14 by unfold batE; rw [if_pos (Or.inl c0)]) (by decide))
   have q0 := decide_eq_true c0
   generalize HBatP B I d date w = PP at *
   clear hX0 ok g bO c0
   go_enter Tryz.func39, Tryz.ntmps39
   go_wp2_with fail
   exact bodyPost_ret (v := .tuple #[.agg #[.string ⟨#[]⟩, .string ⟨#[]⟩, .int .i64 0, .slice none 0 0], .int .i64 14]) (by simp [results, Tryz.results39, go_sem, a0, a1, a2, a3]) rfl (hend.out _ ((Ext.refl _).alloc _))
 have q0 := decide_eq_false c0
 by_cases c1 : 99999 < date
 · have hend := Lib.hid (bat_bad (B := B) (I := I) (w := w) 14 (show batE d date = 14 by unfold batE; rw [if_pos (Or.inr c1)]) (by decide))
   have q1 := decide_eq_true c1
   generalize HBatP B I d date w = PP at *
   clear hX0 ok g bO c0 c1
   go_enter Tryz.func39, Tryz.ntmps39
   go_wp2_with fail
   exact bodyPost_ret (v := .tuple #[.agg #[.string ⟨#[]⟩, .string ⟨#[]⟩, .int .i64 0, .slice none 0 0], .int .i64 14]) (by simp [results, Tryz.results39, go_sem, a0, a1, a2, a3]) rfl (hend.out _ ((Ext.refl _).alloc _))
 have q1 := decide_eq_false c1
 by_cases c2 : d.wt.length = 0
 · have hend := Lib.hid (bat_bad (B := B) (I := I) (w := w) 6 (show batE d date = 6 by unfold batE; rw [if_neg (by omega), if_pos c2]) (by decide))
   generalize HBatP B I d date w = PP at *
   rw [c2] at y7
   clear hX0 ok g bO c0 c1
   go_enter Tryz.func39, Tryz.ntmps39
   go_wp2_with fail
   exact bodyPost_ret (v := .tuple #[.agg #[.string ⟨#[]⟩, .string ⟨#[]⟩, .int .i64 0, .slice none 0 0], .int .i64 6]) (by simp [results, Tryz.results39, go_sem, a0, a1, a2, a3]) rfl (hend.out _ ((Ext.refl _).alloc _))
 obtain ⟨dn, rfl⟩ : ∃ dn : Nat, date = (dn : Int) := ⟨date.toNat, by omega⟩
 have hd5 : dn ≤ 99999 := by omega
 obtain ⟨fn, hfn⟩ : ∃ fn : Nat, d.files = (fn : Int) := ⟨d.files.toNat, by have := ok.files; omega⟩
 have hbz : batE d (dn : Int) = 0 := by unfold batE; rw [if_neg (by omega), if_neg c2]
 have kI : ∀ n : Nat, n ≤ 9223372036854775807 → ∀ w3, Gw w3 → Calls Tryz.prog 77 #[.int .i64 n] w3 (fun e w' => e = .returned (.string (itoaS n)) ∧ Ext w3 w') := fun n hn w3 g3 => itoa_fix n w3 g3 hn
 replace kI := Lib.hid kI
 obtain ⟨L, hL⟩ : ∃ L, d.wt.length = L := ⟨_, rfl⟩
 rw [hL] at y7 c2
 have k2 : ((0 : Int) == (L : Int)) = false := by simp; omega
 have k3 : ((L : Int) == (0 : Int)) = false := by simp; omega
 rw [hfn] at y10
 obtain ⟨nm, hnm⟩ : ∃ nm, d.name = nm := ⟨_, rfl⟩
 rw [hnm] at y0
 have z10 := hX.out.h.fz 10
 have hset := Lib.hid (fun W (hW : W = (w.setCell ⟨I.X, 10, none⟩ (.int .i64 ((fn : Int) + 1))).alloc (.cells #[.string ⟨#[]⟩, .string ⟨#[]⟩, .int .i64 0, .slice none 0 0] 107)) => show HostX W B I bs sv (.slice p d.wt.length c) (batK d 0) ∧ Blk W w.heap.size #[.string ⟨#[]⟩, .string ⟨#[]⟩, .int .i64 0, .slice none 0 0] 107 ∧ Chg (HF B I w) w W from by
  have h1 := hX.out
  have hb := h1.h
  have hC : Chg (fun k => k = I.X) w (w.setCell ⟨I.X, 10, none⟩ (.int .i64 ((fn : Int) + 1))) := Chg.setCell (F := fun k => k = I.X) (Chg.refl _ _) (p := ⟨I.X, 10, none⟩) (Or.inl rfl) _
  have hT : Chg (Typ [81] [] 0 w) w (w.setCell ⟨I.X, 10, none⟩ (.int .i64 ((fn : Int) + 1))) := hC.mono fun k _ e => by subst e; exact Typ.of hb (Nat.zero_le _) (by simp)
  have hE : Ext (w.setCell ⟨I.X, 10, none⟩ (.int .i64 ((fn : Int) + 1))) W := by rw [hW]; exact (Ext.refl _).alloc _
  have hh : HostX (w.setCell ⟨I.X, 10, none⟩ (.int .i64 ((fn : Int) + 1))) B I bs sv (.slice p d.wt.length c) (batK d 0) := by
   refine ⟨?_, h1.s.chg hT (Typ.not h1.s.b (by decide)), h1.q.chg hT (by decide) (by decide) (by simp), Typ.row h1.r hT (by decide), fun i b x hb hx => ⟨Typ.blk (h1.e i b x hb hx).1 hT (by decide), (h1.e i b x hb hx).2⟩, Typ.smap h1.m hT (by simp), Typ.row h1.wt hT (by decide), Typ.smap h1.f hT (by simp), Typ.smap h1.c hT (by simp)⟩
   have h2 := hb.set 10 (.int .i64 ((fn : Int) + 1))
   have e1 : d.files + 1 = (fn : Int) + 1 := by rw [hfn]
   have e2 : (batK d 0).files = (fn : Int) + 1 := e1
   rw [e2]
   exact h2
  have hN : Blk W w.heap.size #[.string ⟨#[]⟩, .string ⟨#[]⟩, .int .i64 0, .slice none 0 0] 107 := by
   rw [hW]
   have h3 := Blk.new (w.setCell ⟨I.X, 10, none⟩ (.int .i64 ((fn : Int) + 1))) #[.string ⟨#[]⟩, .string ⟨#[]⟩, .int .i64 0, .slice none 0 0] 107
   rw [show (w.setCell ⟨I.X, 10, none⟩ (.int .i64 ((fn : Int) + 1))).heap.size = w.heap.size from by simp] at h3
   exact h3
  exact ⟨hh.ext hE, hN, (hC.mono fun k _ e => by subst e; exact Typ.of hb ok.bl.1 (by decide)).ext hE⟩)
 have hgl := Lib.hid (fun W (hF : Chg (HF B I w) w W) => g.hf hF hGB)
 generalize hPP : HBatP B I d dn w = PP at *
 clear hX0 c0 c1 a0 a1 a2 a3
 go_enter Tryz.func39, Tryz.ntmps39
 go_wp2_with fail
 obtain ⟨w0, hW⟩ : ∃ w0, w0 = (w.setCell ⟨I.X, 10, none⟩ (.int .i64 ((fn : Int) + 1))).alloc (.cells #[.string ⟨#[]⟩, .string ⟨#[]⟩, .int .i64 0, .slice none 0 0] 107) := ⟨_, rfl⟩
 obtain ⟨hX1, bO1, hF1⟩ := hset.out w0 hW
 first | rw [← hW] | simp only [← hW]
 clear hW hset bO hX y0 y7 y10 z10 hlX k2 k3 hq
 obtain ⟨f1, hf1⟩ : ∃ f1 : Nat, (fn : Int) + 1 = (f1 : Int) := ⟨fn + 1, by omega⟩
 have hff : (batK d 0).files = (f1 : Int) := by rw [← hf1, ← hfn]; rfl
 have hid : batId d dn = (⟨#[70]⟩ ++ itoaS dn) ++ ⟨#[45]⟩ ++ itoaS f1 := by unfold batId; rw [hfn, hf1]
 have x0 : w0.cell? ⟨I.X, 0, none⟩ = some (.string nm) := (hX1.h.cell 0).trans (by show some (Value.string (batK d 0).name) = _; rw [show (batK d 0).name = nm from hnm])
 have x10 : w0.cell? ⟨I.X, 10, none⟩ = some (.int .i64 (f1 : Int)) := (hX1.h.cell 10).trans (by show some (Value.int .i64 (batK d 0).files) = _; rw [hff])
 have hg := Lib.hid (hgl.out w0 hF1)
 have hl0 := Lib.hid hF1.size
 replace hX1 := Lib.hid hX1
 replace bO1 := Lib.hid bO1
 replace hF1 := Lib.hid hF1
 have kI1 := Lib.hid (kI.out dn (by omega))
 have kI2 := Lib.hid (kI.out f1 (by omega))
 have hs1 := itoaS_size dn (by omega)
 have hs2 := itoaS_size f1 (by omega)
 clear kI
 clear hgl g hf1 hff
 generalize itoaS (dn : Int) = s1 at *
 generalize itoaS (f1 : Int) = s2 at *
 refine wp_region_grow (by kernel_rfl) ?_
 refine grow_take (i := 0) (v := .int .i64 dn) rfl (by kernel_rfl) (by kernel_rfl) (by kernel_rfl) (fun _ _ _ h => h) ⟨by rfl, fun w' hE => Or.inl (by first | (go_simp; done) | (go_simp; with_reducible rfl) | rfl)⟩ ?_
 simp only [Act.put, List.setIfInBounds_toArray]
 refine grow_take (i := 1) (v := .string s1) rfl (by kernel_rfl) (by kernel_rfl) (by kernel_rfl) (fun _ _ _ h => h) ⟨by rfl, fun w' hE => Or.inr ⟨77, #[.int .i64 dn], (by first | (go_simp; done) | (go_simp; with_reducible rfl) | rfl), kI1.out w' ((hg.out.ext ((Ext.drew (Ext.refl _)).trans hE)).gw)⟩⟩ ?_
 simp only [Act.put]
 have u1 : ¬ 9223372036854775807 < 1 + s1.size := by omega
 refine grow_take (i := 2) (v := .string (⟨#[70]⟩ ++ s1)) rfl (by kernel_rfl) (by kernel_rfl) (by kernel_rfl) (fun _ _ _ h => h) ⟨by rfl, fun w' hE => Or.inl (by first | (go_simp; done) | (go_simp; with_reducible rfl) | rfl)⟩ ?_
 simp only [Act.put]
 have u2 : ¬ 9223372036854775807 < 1 + s1.size + 1 := by omega
 refine grow_take (i := 3) (v := .string (⟨#[70]⟩ ++ s1 ++ ⟨#[45]⟩)) rfl (by kernel_rfl) (by kernel_rfl) (by kernel_rfl) (fun _ _ _ h => h) ⟨by rfl, fun w' hE => Or.inl (by first | (go_simp; done) | (go_simp; with_reducible rfl) | rfl)⟩ ?_
 simp only [Act.put]
 refine grow_take (i := 4) (v := .pointer (some ⟨I.X, 0, none⟩)) rfl (by kernel_rfl) (by kernel_rfl) (by kernel_rfl) (fun _ _ _ h => h) ⟨by rfl, fun w' hE => Or.inl (by first | (go_simp; done) | (go_simp; with_reducible rfl) | rfl)⟩ ?_
 simp only [Act.put]
 refine grow_take (i := 5) (v := .pointer (some ⟨I.X, 0, none⟩)) rfl (by kernel_rfl) (by kernel_rfl) (by kernel_rfl) (fun _ _ _ h => h) ⟨by rfl, fun w' hE => Or.inl (by first | (go_simp; done) | (go_simp; with_reducible rfl) | rfl)⟩ ?_
 simp only [Act.put]
 refine grow_take (i := 6) (v := .pointer (some ⟨I.X, 7, none⟩)) rfl (by kernel_rfl) (by kernel_rfl) (by kernel_rfl) (fun _ _ _ h => h) ⟨by rfl, fun w' hE => Or.inl (by first | (go_simp; done) | (go_simp; with_reducible rfl) | rfl)⟩ ?_
 simp only [Act.put]
 refine grow_take (i := 7) (v := .pointer (some ⟨I.X, 10, none⟩)) rfl (by kernel_rfl) (by kernel_rfl) (by kernel_rfl) (fun _ _ _ h => h) ⟨by rfl, fun w' hE => Or.inl (by first | (go_simp; done) | (go_simp; with_reducible rfl) | rfl)⟩ ?_
 simp only [Act.put]
 refine grow_take (i := 8) (v := .int .i64 (f1 : Int)) rfl (by kernel_rfl) (by kernel_rfl) (by kernel_rfl) (fun _ _ _ h => h) ⟨by rfl, fun w' hE => Or.inl (by have y := hE.get (show w0.drew.cell? ⟨I.X, 10, none⟩ = some (.int .i64 (f1 : Int)) from x10); first | (go_simp; done) | (go_simp; with_reducible rfl))⟩ ?_
 simp only [Act.put]
 refine grow_take (i := 9) (v := .string s2) rfl (by kernel_rfl) (by kernel_rfl) (by kernel_rfl) (fun _ _ _ h => h) ⟨by rfl, fun w' hE => Or.inr ⟨77, #[.int .i64 f1], (by first | (go_simp; done) | (go_simp; with_reducible rfl) | rfl), kI2.out w' ((hg.out.ext ((Ext.drew (Ext.refl _)).trans hE)).gw)⟩⟩ ?_
 simp only [Act.put]
 have u3 : ¬ 9223372036854775807 < 1 + s1.size + 1 + s2.size := by omega
 refine grow_take (i := 10) (v := .string (⟨#[70]⟩ ++ s1 ++ ⟨#[45]⟩ ++ s2)) rfl (by kernel_rfl) (by kernel_rfl) (by kernel_rfl) (fun _ _ _ h => h) ⟨by rfl, fun w' hE => Or.inl (by first | (go_simp; done) | (go_simp; with_reducible rfl) | rfl)⟩ ?_
 simp only [Act.put]
 refine grow_take (i := 11) (v := .pointer (some ⟨I.X, 0, none⟩)) rfl (by kernel_rfl) (by kernel_rfl) (by kernel_rfl) (fun _ _ _ h => h) ⟨by rfl, fun w' hE => Or.inl (by first | (go_simp; done) | (go_simp; with_reducible rfl) | rfl)⟩ ?_
 simp only [Act.put]
 refine grow_take (i := 12) (v := .pointer (some ⟨I.X, 0, none⟩)) rfl (by kernel_rfl) (by kernel_rfl) (by kernel_rfl) (fun _ _ _ h => h) ⟨by rfl, fun w' hE => Or.inl (by first | (go_simp; done) | (go_simp; with_reducible rfl) | rfl)⟩ ?_
 simp only [Act.put]
 refine grow_take (i := 13) (v := .pointer (some ⟨I.X, 0, none⟩)) rfl (by kernel_rfl) (by kernel_rfl) (by kernel_rfl) (fun _ _ _ h => h) ⟨by rfl, fun w' hE => Or.inl (by first | (go_simp; done) | (go_simp; with_reducible rfl) | rfl)⟩ ?_
 simp only [Act.put]
 refine grow_take (i := 14) (v := .string nm) rfl (by kernel_rfl) (by kernel_rfl) (by kernel_rfl) (fun _ _ _ h => h) ⟨by rfl, fun w' hE => Or.inl (by have y := hE.get (show w0.drew.cell? ⟨I.X, 0, none⟩ = some (.string nm) from x0); first | (go_simp; done) | (go_simp; with_reducible rfl))⟩ ?_
 simp only [Act.put]
 refine grow_take (i := 15) (v := .int .i64 dn) rfl (by kernel_rfl) (by kernel_rfl) (by kernel_rfl) (fun _ _ _ h => h) ⟨by rfl, fun w' hE => Or.inl (by first | (go_simp; done) | (go_simp; with_reducible rfl) | rfl)⟩ ?_
 simp only [Act.put]
 refine grow_take (i := 16) (v := .agg #[.string (⟨#[70]⟩ ++ s1 ++ ⟨#[45]⟩ ++ s2), .string nm, .int .i64 dn, .slice none 0 0]) rfl (by kernel_rfl) (by kernel_rfl) (by kernel_rfl) (fun _ _ _ h => h) ⟨by rfl, fun w' hE => Or.inl (by first | (go_simp; done) | (go_simp; with_reducible rfl) | rfl)⟩ ?_
 simp only [Act.put]
 refine grow_one (i := 17) rfl (by kernel_rfl) (by rfl) (fun w1 hE1 => ?_)
 go_simp
 refine ⟨Or.inl ((Ext.refl _).alloc _), ?_⟩
 have bS := Blk.new w1 #[.string ⟨#[]⟩, .string ⟨#[]⟩, .int .i64 0, .slice none 0 0] 107
 have hE2 : Ext w0 (w1.alloc (.cells #[.string ⟨#[]⟩, .string ⟨#[]⟩, .int .i64 0, .slice none 0 0] 107)) := (Ext.trans (Ext.drew (Ext.refl _)) hE1).alloc _
 have hls : w.heap.size < w1.heap.size := Nat.lt_of_lt_of_le bO1.out.lt (by have := hE1.size; simpa using this)
 clear x0 x10 hg kI1 kI2 u1 u2 u3 hs1 hs2 hE1
 obtain ⟨pb, hpb⟩ : ∃ pb, pb = w1.heap.size := ⟨_, rfl⟩
 obtain ⟨w2, hw2⟩ : ∃ w2, w2 = w1.alloc (.cells #[.string ⟨#[]⟩, .string ⟨#[]⟩, .int .i64 0, .slice none 0 0] 107) := ⟨_, rfl⟩
 rw [← hw2] at bS hE2
 rw [← hpb] at bS hls
 first | rw [← hw2, ← hpb] | (simp only [← hw2, ← hpb])
 clear hw2 hpb
 refine grow_one (i := 18) rfl (by kernel_rfl) (by rfl) (fun w3 hE3 => ?_)
 have bS3 := bS.ext hE3
 have y0 : w3.cell? ⟨pb, 0, none⟩ = some (.string ⟨#[]⟩) := (bS3.cell 0).trans rfl
 have z0 : w3.frozen? ⟨pb, 0, none⟩ = false := bS3.fz 0
 have y1 : w3.cell? ⟨pb, 1, none⟩ = some (.string ⟨#[]⟩) := (bS3.cell 1).trans rfl
 have z1 : w3.frozen? ⟨pb, 1, none⟩ = false := bS3.fz 1
 have y2 : w3.cell? ⟨pb, 2, none⟩ = some (.int .i64 0) := (bS3.cell 2).trans rfl
 have z2 : w3.frozen? ⟨pb, 2, none⟩ = false := bS3.fz 2
 have y3 : w3.cell? ⟨pb, 3, none⟩ = some (.slice none 0 0) := (bS3.cell 3).trans rfl
 have z3 : w3.frozen? ⟨pb, 3, none⟩ = false := bS3.fz 3
 have hl3 := bS3.lt
 have hX3 := Lib.hid (hX1.out.ext (hE2.trans hE3))
 have bO3 := Lib.hid (bO1.out.ext (hE2.trans hE3))
 have hF3 := Lib.hid (hF1.out.ext (hE2.trans hE3))
 clear hX1 bO1 hF1 bS hE2 hE3
 go_simp
 refine ⟨Or.inr (by kernel_rfl), ?_⟩
 refine grow_end (by kernel_rfl) (fun w4 hE5 => ?_) _
 clear y0 y1 y2 y3 z0 z1 z2 z3 hl3
 obtain ⟨W, hW⟩ : ∃ W, W = (((w3.setCell ⟨pb, 0, none⟩ (.string (⟨#[70]⟩ ++ s1 ++ ⟨#[45]⟩ ++ s2))).setCell ⟨pb, 1, none⟩ (.string nm)).setCell ⟨pb, 2, none⟩ (.int .i64 dn)).setCell ⟨pb, 3, none⟩ (.slice none 0 0) := ⟨_, rfl⟩
 rw [← hW] at hE5
 have hC : Chg (fun k => k = pb) w3 W := by
  rw [hW]
  exact Chg.setCell (F := fun k => k = pb) (Chg.setCell (F := fun k => k = pb) (Chg.setCell (F := fun k => k = pb) (Chg.setCell (F := fun k => k = pb) (Chg.refl _ _) (p := ⟨pb, 0, none⟩) (Or.inl rfl) _) (p := ⟨pb, 1, none⟩) (Or.inl rfl) _) (p := ⟨pb, 2, none⟩) (Or.inl rfl) _) (p := ⟨pb, 3, none⟩) (Or.inl rfl) _
 have hS4 : BatS w B I bs sv (.slice p d.wt.length c) d dn pb 0 0 (.slice none 0 0) W := by
  have b4 := (((bS3.set 0 (.string (⟨#[70]⟩ ++ s1 ++ ⟨#[45]⟩ ++ s2))).set 1 (.string nm)).set 2 (.int .i64 dn)).set 3 (.slice none 0 0)
  rw [← hW] at b4
  refine ⟨hX3.out.away (ts := [107]) (ms := []) (B' := 0) (hC.mono fun k _ e => by subst e; exact Typ.of bS3 (Nat.zero_le _) (by simp)) (by decide) (by simp), ?_, by rw [List.take_zero]; exact RowR.nil _ _ _ _, bO3.out.chg hC (by omega), hls, ?_⟩
  · rw [hid, hnm]
    exact b4
  · rw [hW]
    exact (((hF3.out.setCell (p := ⟨pb, 0, none⟩) (Or.inr (Nat.le_of_lt hls)) _).setCell (p := ⟨pb, 1, none⟩) (Or.inr (Nat.le_of_lt hls)) _).setCell (p := ⟨pb, 2, none⟩) (Or.inr (Nat.le_of_lt hls)) _).setCell (p := ⟨pb, 3, none⟩) (Or.inr (Nat.le_of_lt hls)) _
 replace hS4 := hS4.ext hE5
 clear hC hE5 hW bS3 hX3 bO3 hF3
 have y7 : w4.cell? ⟨I.X, 7, none⟩ = some (.slice p L c) := (hS4.x.h.cell 7).trans (by rw [← hL]; rfl)
 obtain ⟨i0, hI, hz0, hz1, hz2⟩ := info_partsE infoEntE
 obtain ⟨N, hN⟩ : ∃ N, batN d = N := ⟨_, rfl⟩
 have hNL : N ≤ L ∧ N ≤ 200 ∧ 0 < N ∧ (N = L ∨ N = 200) := by unfold batN at hN; omega
 rcases hS4.x.wt.lie with ⟨-, h0⟩ | ⟨g, off, cap, hv, hgB, hgl, hcap, hcm, hfz, -⟩
 · exact absurd (congrArg List.length h0) (by show ¬ d.wt.length = 0; omega)
 injection hv with hp1 hp2 hp3
 subst hp1 hp3
 have hcap' : L ≤ c := by rw [← hL]; exact hcap
 have hsl := slice_to Tryz.underlying76 hI g off L c N (by omega)
 have hmin : ∀ (w : World) ty, (Builtin.min_ #[3, 3] ty #[.int .i64 L, .int .i64 200]).run Tryz.prog w = .ok (.int .i64 N) w := by
  intro w ty
  have e : (if (200 : Int) < (L : Int) then (200 : Int) else (L : Int)) = (N : Int) := by split <;> omega
  rw [Go.run_min_int2, e]
 replace hS4 := Lib.hid (fun wr (hE : Ext w4 wr) => hS4.ext hE)
 have hm63 := Lib.hid hcm
 clear hcap hp2 hfz
 go_wp2_with fail
 clear hI hz0 hz1 hz2
 obtain ⟨iR, hI, hz0, hz1, hz2⟩ := info_partsE infoRecA
 replace hI := Lib.hid hI
 replace hz0 := Lib.hid hz0
 replace hz1 := Lib.hid hz1
 replace hz2 := Lib.hid hz2
 clear hsl hmin y7
 go_loopw [69] (fun i wr => ∃ k : Nat, k ≤ N ∧ i = .int .i64 k ∧ Hid (∃ vk, BatS w B I bs sv (.slice (some ⟨g, off, none⟩) d.wt.length c) d dn pb k k vk wr)) (fun i _ => N - (intOf i).toNat)
 case atStart => exact ⟨0, Nat.zero_le _, rfl, Lib.hid ⟨_, hS4.out _ (Ext.refl _)⟩⟩
 case round =>
  obtain ⟨k, hk, rfl, hS⟩ := hrel
  clear hS4
  by_cases hlt : k < N
  · obtain ⟨vk, hS1⟩ := hS.out
    obtain ⟨x, hx⟩ : ∃ x, d.wt[k]? = some x := ⟨_, List.getElem?_eq_getElem (by omega)⟩
    have hlen := take_len hx
    obtain ⟨vp, vc, hvf⟩ := hS1.r.form
    rw [hlen] at hvf
    subst hvf
    have hrow := Lib.hid (show OwnC wr w.heap.size 113 12 (.slice vp k vc) k (recL.flat (d.wt.take k)) from by have h1 := hS1.r.2; rw [hlen] at h1; exact h1)
    have xok := Lib.hid (ok.eok x (List.mem_of_getElem? hx))
    have y3 : wr.cell? ⟨pb, 3, none⟩ = some (.slice vp k vc) := (hS1.v.cell 3).trans rfl
    have x0 : wr.cell? ⟨g, off + k * 13, none⟩ = some (.int .i64 x.kind) := ent_cells hS1.x.wt hx 0 _ rfl
    have x1 : wr.cell? ⟨g, off + k * 13 + 1, none⟩ = some (.string x.id) := ent_cells hS1.x.wt hx 1 _ rfl
    have x2 : wr.cell? ⟨g, off + k * 13 + 2, none⟩ = some (.string x.auth) := ent_cells hS1.x.wt hx 2 _ rfl
    have x3 : wr.cell? ⟨g, off + k * 13 + 3, none⟩ = some (.string x.acq) := ent_cells hS1.x.wt hx 3 _ rfl
    have x4 : wr.cell? ⟨g, off + k * 13 + 4, none⟩ = some (.string x.iss) := ent_cells hS1.x.wt hx 4 _ rfl
    have x5 : wr.cell? ⟨g, off + k * 13 + 5, none⟩ = some (.string x.mer) := ent_cells hS1.x.wt hx 5 _ rfl
    have x6 : wr.cell? ⟨g, off + k * 13 + 6, none⟩ = some (.string x.car) := ent_cells hS1.x.wt hx 6 _ rfl
    have x7 : wr.cell? ⟨g, off + k * 13 + 7, none⟩ = some (.int .i64 x.amt) := ent_cells hS1.x.wt hx 7 _ rfl
    have x8 : wr.cell? ⟨g, off + k * 13 + 8, none⟩ = some (.string x.cur) := ent_cells hS1.x.wt hx 8 _ rfl
    have x9 : wr.cell? ⟨g, off + k * 13 + 9, none⟩ = some (.int .i64 x.date) := ent_cells hS1.x.wt hx 9 _ rfl
    have x10 : wr.cell? ⟨g, off + k * 13 + 10, none⟩ = some (.int .i64 x.cat) := ent_cells hS1.x.wt hx 10 _ rfl
    have x11 : wr.cell? ⟨g, off + k * 13 + 11, none⟩ = some (.bool x.fin) := ent_cells hS1.x.wt hx 11 _ rfl
    have x12 : wr.cell? ⟨g, off + k * 13 + 12, none⟩ = some (.string x.orig) := ent_cells hS1.x.wt hx 12 _ rfl
    have hws := Lib.hid hS1.c.size
    have lpb := hS1.v.lt
    have hkN : (k : Int) < N := by omega
    have hpush := Lib.hid (fun (w5 : World) (p' : Option Addr) (c' : Nat) (C1 C2 : Array Value) hg hown => BatS.push (C1 := C1) (C2 := C2) (w5 := w5) (p' := p') (c' := c') hS1 x hx (by omega) hg hown)
    replace hx := Lib.hid hx
    clear hS1 hlen
    have hone := Lib.hid (rec_one x)
    go_wp2_with (at_builtin; go_loud (refine wpList_append_cut _ (by rfl) _ _ _ (by rfl) w.heap.size 113 iR (.agg #[.int .i64 0, .string ⟨#[]⟩, .string ⟨#[]⟩, .string ⟨#[]⟩, .string ⟨#[]⟩, .string ⟨#[]⟩, .string ⟨#[]⟩, .int .i64 0, .string ⟨#[]⟩, .int .i64 0, .int .i64 0, .bool false]) 12 152 Tryz.underlying105 hI.out hz0.out hz1.out hz2.out rfl (by omega) (.slice vp k vc) k (recL.flat (d.wt.take k)) (by rfl) (OwnC.ext hrow.out (Ext.alloc (Ext.alloc (Ext.refl _) _) _)) ⟨wr.heap.size + 1, 0, none⟩ 1 1 (#[.int .i64 x.kind, .string x.id, .string x.auth, .string x.acq, .string x.iss, .string x.mer, .string x.car, .int .i64 x.amt, .string x.cur, .int .i64 x.date, .int .i64 x.cat, .bool x.fin] : Array Value).toList (by rfl) (by rfl) (World.news_of_block (Blk.new' (wr.alloc (.cells #[.int .i64 x.kind, .string x.id, .string x.auth, .string x.acq, .string x.iss, .string x.mer, .string x.car, .int .i64 x.amt, .string x.cur, .int .i64 x.date, .int .i64 x.cat, .bool x.fin, .string x.orig] 159)) #[.int .i64 x.kind, .string x.id, .string x.auth, .string x.acq, .string x.iss, .string x.mer, .string x.car, .int .i64 x.amt, .string x.cur, .int .i64 x.date, .int .i64 x.cat, .bool x.fin] 113 _ (by simp))) hone.out (by unfold maxLen; omega) (by omega) (by have := hws.out; simp; omega) ?_; intro p' c' w5 hown5 hgrow5 _hat5; obtain ⟨hS5, b9, z3, ⟨u3, v3⟩, l3⟩ := hpush.out w5 p' c' #[.int .i64 x.kind, .string x.id, .string x.auth, .string x.acq, .string x.iss, .string x.mer, .string x.car, .int .i64 x.amt, .string x.cur, .int .i64 x.date, .int .i64 x.cat, .bool x.fin, .string x.orig] #[.int .i64 x.kind, .string x.id, .string x.auth, .string x.acq, .string x.iss, .string x.mer, .string x.car, .int .i64 x.amt, .string x.cur, .int .i64 x.date, .int .i64 x.cat, .bool x.fin] hgrow5 hown5; replace hS5 := Lib.hid hS5; replace b9 := Lib.hid b9; clear hown5 hgrow5 _hat5))
    clear y3 x0 x1 x2 x3 x4 x5 x6 x7 x8 x9 x10 x11 x12 hpush z3 v3 l3 lpb hone hrow
    obtain ⟨W, hW⟩ : ∃ W, W = w5.setCell ⟨pb, 3, none⟩ (.slice p' (k + 1) c') := ⟨_, rfl⟩
    rw [← hW] at hS5 b9
    first | rw [← hW] | simp only [← hW]
    clear hW
    have y8 : W.cell? ⟨I.X, 8, none⟩ = some (.map (some I.F)) := hS5.out.x.h.cell 8
    have c0 : W.cell? ⟨wr.heap.size, 0, none⟩ = some (.int .i64 x.kind) := (b9.out.cell 0).trans rfl
    have c1 : W.cell? ⟨wr.heap.size, 1, none⟩ = some (.string x.id) := (b9.out.cell 1).trans rfl
    have c2 : W.cell? ⟨wr.heap.size, 2, none⟩ = some (.string x.auth) := (b9.out.cell 2).trans rfl
    have c3 : W.cell? ⟨wr.heap.size, 3, none⟩ = some (.string x.acq) := (b9.out.cell 3).trans rfl
    have c4 : W.cell? ⟨wr.heap.size, 4, none⟩ = some (.string x.iss) := (b9.out.cell 4).trans rfl
    have c5 : W.cell? ⟨wr.heap.size, 5, none⟩ = some (.string x.mer) := (b9.out.cell 5).trans rfl
    have c6 : W.cell? ⟨wr.heap.size, 6, none⟩ = some (.string x.car) := (b9.out.cell 6).trans rfl
    have c7 : W.cell? ⟨wr.heap.size, 7, none⟩ = some (.int .i64 x.amt) := (b9.out.cell 7).trans rfl
    have c8 : W.cell? ⟨wr.heap.size, 8, none⟩ = some (.string x.cur) := (b9.out.cell 8).trans rfl
    have c9 : W.cell? ⟨wr.heap.size, 9, none⟩ = some (.int .i64 x.date) := (b9.out.cell 9).trans rfl
    have c10 : W.cell? ⟨wr.heap.size, 10, none⟩ = some (.int .i64 x.cat) := (b9.out.cell 10).trans rfl
    have c11 : W.cell? ⟨wr.heap.size, 11, none⟩ = some (.bool x.fin) := (b9.out.cell 11).trans rfl
    have c12 : W.cell? ⟨wr.heap.size, 12, none⟩ = some (.string x.orig) := (b9.out.cell 12).trans rfl
    have l9 := b9.out.lt
    have lX := hS5.out.x.h.lt
    go_still_tail 9, (by kernel_rfl)
    change wpList _ _ _ _ _ W.drew
    have hEd : Ext W W.drew := (Ext.refl W).drew
    generalize W.drew = w7 at *
    replace hS5 := Lib.hid (hS5.out.ext hEd)
    have hnf7 : d.nfiled + k < maxLen := by unfold maxLen; omega
    have hid7 : x.id.size ≤ maxLen := by have := xok.out.id; unfold maxLen; omega
    clear c0 c1 c2 c3 c4 c5 c6 c7 c8 c9 c10 c11 c12 y8 l9 lX b9 hEd hS
    go_wp2_with (at_mapUpdate; go_loud (refine wpList_smap_store (by rfl) _ _ _ 74 (by rfl) 9 159 Tryz.underlying9 Tryz.underlying74 I.F (batK d k).nfiled (fun s => ((batK d k).filed s).map entAgg) (by rfl) hS5.out.x.f hnf7 x.id (entAgg x) hid7 (by rfl) (by rfl) ?_; intro w8 hm8 hg8; have hS8 := Lib.hid (hS5.out.map ok x hx.out hm8 hg8); clear hm8 hg8 hS5))
    go_roundw
    case rel => exact ⟨k + 1, by omega, by go_num, Lib.hid ⟨_, hS8.out⟩⟩
    case measure => simp [intOf]; omega
  · obtain rfl : k = N := by omega
    obtain ⟨vk, hS1⟩ := hS.out
    have y7 : wr.cell? ⟨I.X, 7, none⟩ = some (.slice (some ⟨g, off, none⟩) L c) := (hS1.x.h.cell 7).trans (by rw [← hL]; rfl)
    have kDel := Lib.hid (del0_any B (.slice (some ⟨g, off, none⟩) d.wt.length c) d.wt k wr hS1.x.wt ⟨by omega, by omega⟩)
    rw [hL] at kDel
    have hdel := Lib.hid (fun e w' (hp : Del0P B (.slice (some ⟨g, off, none⟩) L c) d.wt k wr e w') => hS1.del ok hN (by rw [hL]; exact hp))
    have lX := hS1.x.h.lt
    have hkk : ¬ (k : Int) < (k : Int) := by omega
    replace hS := Lib.hid hS1.l
    clear hS1
    go_wp2_with fail
    refine (kDel.out).mono ?_
    rintro e w8 hp
    obtain ⟨v', rfl, z7, ⟨u7, x7⟩, lX8, ⟨bP, bO, n1, n2, n3, p2, m2, c2, rfl⟩, hD⟩ := hdel.out e w8 hp
    have hfv := hS.out
    obtain ⟨vq, vcq, rfl⟩ := (hD _ rfl).2.2.1.form
    generalize (d.wt.take k).length = mq at *
    have o0 : w8.cell? ⟨pb, 0, none⟩ = some (.string (batId d dn)) := (bP.cell 0).trans rfl
    have o1 : w8.cell? ⟨pb, 1, none⟩ = some (.string d.name) := (bP.cell 1).trans rfl
    have o2 : w8.cell? ⟨pb, 2, none⟩ = some (.int .i64 dn) := (bP.cell 2).trans rfl
    have o3 : w8.cell? ⟨pb, 3, none⟩ = some (.slice vq mq vcq) := (bP.cell 3).trans rfl
    have t0 : w8.cell? ⟨w.heap.size, 0, none⟩ = some (.string ⟨#[]⟩) := (bO.cell 0).trans rfl
    have t1 : w8.cell? ⟨w.heap.size, 1, none⟩ = some (.string ⟨#[]⟩) := (bO.cell 1).trans rfl
    have t2 : w8.cell? ⟨w.heap.size, 2, none⟩ = some (.int .i64 0) := (bO.cell 2).trans rfl
    have t3 : w8.cell? ⟨w.heap.size, 3, none⟩ = some (.slice none 0 0) := (bO.cell 3).trans rfl
    have f0 := bO.fz 0
    have f1' := bO.fz 1
    have f2' := bO.fz 2
    have f3' := bO.fz 3
    have lO := bO.lt
    have n1' : pb ≠ I.X := fun e => n1 e.symm
    have n2' : w.heap.size ≠ I.X := fun e => n2 e.symm
    have n3' : w.heap.size ≠ pb := fun e => n3 e.symm
    have hfin := Lib.hid (fun W hW => bat_fin (w := w) (W := W) ok hfi hnf hN hbz (hD _ rfl) hW)
    rw [hPP] at hfin
    clear hp kDel hdel y7 lX hD bP bO hPP hid hnm hfv
    generalize batId d dn = idv at *
    generalize d.name = nmv at *
    go_wp2_with fail
    obtain ⟨W, hW⟩ : ∃ W, W = ((((w8.setCell ⟨I.X, 7, none⟩ (.slice p2 m2 c2)).setCell ⟨w.heap.size, 0, none⟩ (.string idv)).setCell ⟨w.heap.size, 1, none⟩ (.string nmv)).setCell ⟨w.heap.size, 2, none⟩ (.int .i64 dn)).setCell ⟨w.heap.size, 3, none⟩ (.slice vq mq vcq) := ⟨_, rfl⟩
    obtain ⟨hP, bE⟩ := hfin.out W hW
    first | rw [← hW] | simp only [← hW]
    have r0 : W.cell? ⟨w.heap.size, 0, none⟩ = some (.string idv) := (bE.cell 0).trans rfl
    have r1 : W.cell? ⟨w.heap.size, 1, none⟩ = some (.string nmv) := (bE.cell 1).trans rfl
    have r2 : W.cell? ⟨w.heap.size, 2, none⟩ = some (.int .i64 dn) := (bE.cell 2).trans rfl
    have r3 : W.cell? ⟨w.heap.size, 3, none⟩ = some (.slice vq mq vcq) := (bE.cell 3).trans rfl
    exact bodyPost_ret (v := .tuple #[.agg #[.string idv, .string nmv, .int .i64 dn, .slice vq mq vcq], .int .i64 0]) (by simp [results, Tryz.results39, go_sem, r0, r1, r2, r3]) rfl hP
end Go.Proofs.YtkggloeaojkhaaaGreatDoor
