/- The acquirer's host: data, memory, and what changes of it leave (printed by gen/h78.py). -/
import Derived.Test.YtkggloeaojkhaaaGreatDoorPg
import Derived.Test.YtkggloeaojkhaaaGreatDoorPh
namespace Go.Proofs.YtkggloeaojkhaaaGreatDoor
open Go.RowKit
/-- A purchase. -/
structure PurD where
 mer : ByteArray
 ter : ByteArray
 car : ByteArray
 amt : Int
 least : Int
 cur : ByteArray
 cat : Int
def purCells (p : PurD) : List Value := [.string p.mer, .string p.ter, .string p.car, .int .i64 p.amt, .int .i64 p.least, .string p.cur, .int .i64 p.cat]
def purAgg (p : PurD) : Value := .agg #[.string p.mer, .string p.ter, .string p.car, .int .i64 p.amt, .int .i64 p.least, .string p.cur, .int .i64 p.cat]
/-- A sale, with what the host remembers of it. -/
structure SaleD where
 ref : ByteArray
 p : PurD
 st : Int
 appr : Int
 capt : Int
 refd : Int
 dl : Int
 pres : Int
 refs : Int
 fin : Bool
def salCells (s : SaleD) : Array Value := #[.string s.ref, .string s.p.mer, .string s.p.ter, .string s.p.car, .int .i64 s.p.amt, .int .i64 s.p.least, .string s.p.cur, .int .i64 s.p.cat, .int .i64 s.st, .int .i64 s.appr, .int .i64 s.capt, .int .i64 s.refd, .int .i64 s.dl, .int .i64 s.pres, .int .i64 s.refs, .bool s.fin]
/-- The sale as it is returned. -/
def salAgg (s : SaleD) : Value := .agg #[.string s.ref, .string s.p.mer, .string s.p.ter, .string s.p.car, .int .i64 s.p.amt, .int .i64 s.p.least, .string s.p.cur, .int .i64 s.p.cat, .int .i64 s.st, .int .i64 s.appr, .int .i64 s.capt, .int .i64 s.refd]
/-- A record that waits for a file. -/
structure EntD where
 kind : Int
 id : ByteArray
 auth : ByteArray
 acq : ByteArray
 iss : ByteArray
 mer : ByteArray
 car : ByteArray
 amt : Int
 cur : ByteArray
 date : Int
 cat : Int
 fin : Bool
 orig : ByteArray
def entCells (e : EntD) : List Value := [.int .i64 e.kind, .string e.id, .string e.auth, .string e.acq, .string e.iss, .string e.mer, .string e.car, .int .i64 e.amt, .string e.cur, .int .i64 e.date, .int .i64 e.cat, .bool e.fin, .string e.orig]
def entL : Lay EntD := ⟨entCells, 13, by decide, fun _ => rfl⟩
def entAgg (e : EntD) : Value := .agg #[.int .i64 e.kind, .string e.id, .string e.auth, .string e.acq, .string e.iss, .string e.mer, .string e.car, .int .i64 e.amt, .string e.cur, .int .i64 e.date, .int .i64 e.cat, .bool e.fin, .string e.orig]
/-- A row of pointers to the heads of blocks. -/
def ptrV (b : Nat) : Value := .pointer (some ⟨b, 0, none⟩)
def ptrL : Lay Nat := ⟨fun b => [ptrV b], 1, by decide, fun _ => rfl⟩
structure HostD where
 name : ByteArray
 timeout : Int
 now : Int
 sender : Nat
 last : Nat
 q : QueD
 sales : List SaleD
 wt : List EntD
 filed : List UInt8 → Option EntD
 nfiled : Nat
 copies : List UInt8 → Option Int
 ncopies : Nat
 files : Int
/-- What stands at each reference. -/
def refF : List ByteArray → List Nat → KeyF
 | r :: rs, b :: bs => fun s => if s = r.data.toList then some (ptrV b) else refF rs bs s
 | _, _ => fun _ => none
theorem refF_snoc : ∀ (rs : List ByteArray) (bs : List Nat) (r : ByteArray) (b : Nat), rs.length = bs.length → (∀ x ∈ rs, x.data.toList ≠ r.data.toList) → refF (rs ++ [r]) (bs ++ [b]) = updF (refF rs bs) r.data.toList (ptrV b)
 | [], [], r, b, _, _ => by funext s; simp [refF, updF]
 | [], _ :: _, _, _, h, _ => by simp at h
 | _ :: _, [], _, _, h, _ => by simp at h
 | x :: rs, y :: bs, r, b, h, hn => by
  have ih := refF_snoc rs bs r b (by simpa using h) (fun z hz => hn z (List.mem_cons_of_mem _ hz))
  have hx := hn x List.mem_cons_self
  funext s
  simp only [List.cons_append, refF, ih, updF]
  by_cases h1 : s = x.data.toList
  · rw [if_pos h1, if_pos h1, if_neg (by rw [h1]; exact hx)]
  · rw [if_neg h1, if_neg h1]
/-- The index of the first sale with a reference. -/
def sIx (s : List UInt8) : List ByteArray → Option Nat
 | [] => none
 | r :: rs => if s = r.data.toList then some 0 else (sIx s rs).map (· + 1)
theorem refF_ix : ∀ (rs : List ByteArray) (bs : List Nat) (s : List UInt8), rs.length = bs.length → refF rs bs s = (sIx s rs).bind fun i => (bs[i]?).map ptrV
 | [], [], _, _ => rfl
 | [], _ :: _, _, h => by simp at h
 | _ :: _, [], _, h => by simp at h
 | x :: rs, y :: bs, s, h => by
  have ih := refF_ix rs bs s (by simpa using h)
  simp only [refF, sIx]
  by_cases h1 : s = x.data.toList
  · rw [if_pos h1, if_pos h1]; rfl
  · rw [if_neg h1, if_neg h1, ih]
    cases sIx s rs <;> simp
theorem sIx_some : ∀ {rs : List ByteArray} {s : List UInt8} {i : Nat}, sIx s rs = some i → ∃ r, rs[i]? = some r ∧ r.data.toList = s
 | [], _, _, h => by cases h
 | r :: rs, s, i, h => by
  rw [sIx] at h
  by_cases h1 : s = r.data.toList
  · rw [if_pos h1] at h
    injection h with h
    subst h
    exact ⟨r, rfl, h1.symm⟩
  · rw [if_neg h1] at h
    cases hj : sIx s rs with
    | none => rw [hj] at h; cases h
    | some j =>
     rw [hj] at h
     injection h with h
     obtain ⟨r', h2, h3⟩ := sIx_some hj
     subst h
     exact ⟨r', by simpa using h2, h3⟩
/-- What is true of each sale. -/
structure SaleOk (s : SaleD) : Prop where
 ref : s.ref.size = 12
 mer : s.p.mer.size ≤ 16
 ter : s.p.ter.size ≤ 8
 car : s.p.car.size ≤ 19
 cur : s.p.cur.size = 3
 amt : 1 ≤ s.p.amt ∧ s.p.amt ≤ 999999999999
 least : 0 ≤ s.p.least ∧ s.p.least ≤ 999999999999
 cat : 1 ≤ s.p.cat ∧ s.p.cat ≤ 9999
 appr : 0 ≤ s.appr ∧ s.appr ≤ 999999999999
 capt : 0 ≤ s.capt ∧ s.capt ≤ 2000000000000
 refd : 0 ≤ s.refd ∧ s.refd ≤ s.capt
 dl : 0 ≤ s.dl ∧ s.dl ≤ 2000000000000
 pres : 0 ≤ s.pres ∧ s.pres ≤ 8
 refs : 0 ≤ s.refs ∧ s.refs ≤ 8
/-- What is true of each record. -/
structure EntOk (e : EntD) : Prop where
 id : e.id.size ≤ 1000000
 orig : e.orig.size ≤ 1000
 str : e.auth.size ≤ 1000000 ∧ e.acq.size ≤ 1000000 ∧ e.iss.size ≤ 1000000 ∧ e.mer.size ≤ 1000000 ∧ e.car.size ≤ 1000000 ∧ e.cur.size ≤ 1000000
/-- The blocks of a host that stay the same. -/
structure HostI where
 X : Nat
 S : Nat
 Q : Nat
 M : Nat
 R : Nat
 F : Nat
 C : Nat
def refsOf (d : HostD) : List ByteArray := d.sales.map (·.ref)
structure HostX (w : World) (B : Nat) (I : HostI) (bs : List Nat) (sv wv : Value) (d : HostD) : Prop where
 h : Blk w I.X #[.string d.name, .int .i64 d.timeout, .int .i64 d.now, ptrV I.S, ptrV I.Q, sv, .map (some I.R), wv, .map (some I.F), .map (some I.C), .int .i64 d.files] 81
 s : SrcM w I.S d.sender d.last
 q : QueM w B I.Q I.M d.q
 r : RowR ptrL 86 w B sv bs
 e : ∀ (i : Nat) (b : Nat) (x : SaleD), bs[i]? = some b → d.sales[i]? = some x → Blk w b (salCells x) 88 ∧ B ≤ b
 m : SMap 9 w I.R d.sales.length (refF (refsOf d) bs)
 wt : RowR entL 159 w B wv d.wt
 f : SMap 9 w I.F d.nfiled (fun s => (d.filed s).map entAgg)
 c : SMap 9 w I.C d.ncopies (fun s => (d.copies s).map (Value.int .i64))
/-- What is true of the host's data and blocks. -/
structure HostOk (B : Nat) (I : HostI) (bs : List Nat) (d : HostD) : Prop where
 bl : B ≤ I.X ∧ B ≤ I.S ∧ B ≤ I.R ∧ B ≤ I.F ∧ B ≤ I.C
 ms : I.R ≠ I.M ∧ I.F ≠ I.M ∧ I.C ≠ I.M ∧ I.R ≠ I.F ∧ I.R ≠ I.C ∧ I.F ≠ I.C
 len : bs.length = d.sales.length
 nd : bs.Nodup
 rn : (d.sales.map fun x => x.ref.data.toList).Nodup
 few : d.sales.length ≤ 256
 ok : ∀ x ∈ d.sales, SaleOk x
 eok : ∀ x ∈ d.wt, EntOk x
 fok : ∀ s x, d.filed s = some x → EntOk x
 name : d.name.size ≤ 16
 timeout : 1 ≤ d.timeout ∧ d.timeout ≤ 100000
 nf : d.nfiled ≤ 1000000 ∧ d.ncopies ≤ 1000000
 cop : ∀ s n, d.copies s = some n → 0 ≤ n ∧ n ≤ 9
 files : 0 ≤ d.files ∧ d.files ≤ 1000000000
def HostM (w : World) (B : Nat) (I : HostI) (d : HostD) : Prop := ∃ bs sv wv, HostX w B I bs sv wv d ∧ HostOk B I bs d
/-- The types of the host's blocks. -/
def hTs : List TypeId := [81, 123, 127, 134, 88, 86, 159]
def hMs (I : HostI) : List Nat := [I.M, I.R, I.F, I.C]
/-- The frame of a call that changes the host. -/
abbrev HF (B : Nat) (I : HostI) (w : World) : Nat → Prop := Typ hTs (hMs I) B w
theorem HostX.ext {w w' : World} {B : Nat} {I : HostI} {bs : List Nat} {sv wv : Value} {d : HostD} (h : HostX w B I bs sv wv d) (k : Ext w w') : HostX w' B I bs sv wv d :=
 ⟨h.h.ext k, h.s.ext k, h.q.ext k, h.r.ext k, fun i b x hb hx => ⟨(h.e i b x hb hx).1.ext k, (h.e i b x hb hx).2⟩, h.m.ext k, h.wt.ext k, h.f.ext k, h.c.ext k⟩
theorem HostM.ext {w w' : World} {B : Nat} {I : HostI} {d : HostD} (h : HostM w B I d) (k : Ext w w') : HostM w' B I d := by
 obtain ⟨bs, sv, wv, h1, h2⟩ := h
 exact ⟨bs, sv, wv, h1.ext k, h2⟩
theorem SrcM.chg {F : Nat → Prop} {w w' : World} {S a b : Nat} (h : SrcM w S a b) (k : Chg F w w') (hF : ¬ F S) : SrcM w' S a b := ⟨h.b.chg k hF, h.s, h.l⟩
/-- A change elsewhere. -/
theorem HostX.away {ts : List TypeId} {ms : List Nat} {w w' : World} {B B' : Nat} {I : HostI} {bs : List Nat} {sv wv : Value} {d : HostD} (h : HostX w B I bs sv wv d) (k : Chg (Typ ts ms B' w) w w') (ht : ∀ t ∈ hTs, t ∉ ts) (hm : ∀ m ∈ hMs I, m ∉ ms) : HostX w' B I bs sv wv d :=
 ⟨Typ.blk h.h k (ht _ (by decide)), h.s.chg k (Typ.not h.s.b (ht _ (by decide))), h.q.chg k (ht _ (by decide)) (ht _ (by decide)) (hm _ (by simp [hMs])), Typ.row h.r k (ht _ (by decide)),
  fun i b x hb hx => ⟨Typ.blk (h.e i b x hb hx).1 k (ht _ (by decide)), (h.e i b x hb hx).2⟩, Typ.smap h.m k (hm _ (by simp [hMs])), Typ.row h.wt k (ht _ (by decide)), Typ.smap h.f k (hm _ (by simp [hMs])), Typ.smap h.c k (hm _ (by simp [hMs]))⟩
/-- One block of the host's is changed: what is left. -/
theorem HostX.blkNe {w : World} {B : Nat} {I : HostI} {bs : List Nat} {sv wv : Value} {d : HostD} (h : HostX w B I bs sv wv d) {b : Nat} {cs : Array Value} {T : TypeId} (hb : Blk w b cs T) :
 (T ≠ 81 → I.X ≠ b) ∧ (T ≠ 123 → I.S ≠ b) ∧ I.R ≠ b ∧ I.F ≠ b ∧ I.C ≠ b :=
 ⟨fun hT e => hT (blk_ty (e ▸ hb) h.h), fun hT e => hT (blk_ty (e ▸ hb) h.s.b), fun e => blk_map hb (e ▸ h.m.isMap), fun e => blk_map hb (e ▸ h.f.isMap), fun e => blk_map hb (e ▸ h.c.isMap)⟩
/-- The time of the host is set. -/
theorem HostX.setNow {w : World} {B : Nat} {I : HostI} {bs : List Nat} {sv wv : Value} {d : HostD} (h : HostX w B I bs sv wv d) (n : Int) : HostX (w.setCell ⟨I.X, 2, none⟩ (.int .i64 n)) B I bs sv wv { d with now := n } := by
 have hC : Chg (fun k => k = I.X) w (w.setCell ⟨I.X, 2, none⟩ (.int .i64 n)) := Chg.setCell (F := fun k => k = I.X) (Chg.refl _ _) (p := ⟨I.X, 2, none⟩) (Or.inl rfl) _
 have hT : Chg (Typ [81] [] 0 w) w (w.setCell ⟨I.X, 2, none⟩ (.int .i64 n)) := hC.mono fun k _ e => by subst e; exact Typ.of h.h (Nat.zero_le _) (by simp)
 exact ⟨h.h.set 2 _, h.s.chg hT (Typ.not h.s.b (by decide)), h.q.chg hT (by decide) (by decide) (by simp), Typ.row h.r hT (by decide), fun i b x hb hx => ⟨Typ.blk (h.e i b x hb hx).1 hT (by decide), (h.e i b x hb hx).2⟩, Typ.smap h.m hT (by simp), Typ.row h.wt hT (by decide), Typ.smap h.f hT (by simp), Typ.smap h.c hT (by simp)⟩
theorem HostOk.setNow {B : Nat} {I : HostI} {bs : List Nat} {d : HostD} (h : HostOk B I bs d) (n : Int) : HostOk B I bs { d with now := n } := ⟨h.bl, h.ms, h.len, h.nd, h.rn, h.few, h.ok, h.eok, h.fok, h.name, h.timeout, h.nf, h.cop, h.files⟩
theorem HF.setNow {w : World} {B : Nat} {I : HostI} {bs : List Nat} {sv wv : Value} {d : HostD} (h : HostX w B I bs sv wv d) (k : HostOk B I bs d) (n : Int) : Chg (HF B I w) w (w.setCell ⟨I.X, 2, none⟩ (.int .i64 n)) :=
 Chg.setCell (Chg.refl _ _) (p := ⟨I.X, 2, none⟩) (Or.inl (Typ.of h.h k.bl.1 (by decide))) _
/-- The source gave a number. -/
theorem HostX.setSrc {w w' : World} {B : Nat} {I : HostI} {bs : List Nat} {sv wv : Value} {d : HostD} (h : HostX w B I bs sv wv d) (n : Nat) (hs : SrcM w' I.S d.sender n) (hC : Chg (fun k => k = I.S) w w') : HostX w' B I bs sv wv { d with last := n } := by
 have hT : Chg (Typ [123] [] 0 w) w w' := hC.mono fun k _ e => by subst e; exact Typ.of h.s.b (Nat.zero_le _) (by simp)
 exact ⟨Typ.blk h.h hT (by decide), hs, h.q.chg hT (by decide) (by decide) (by simp), Typ.row h.r hT (by decide), fun i b x hb hx => ⟨Typ.blk (h.e i b x hb hx).1 hT (by decide), (h.e i b x hb hx).2⟩, Typ.smap h.m hT (by simp), Typ.row h.wt hT (by decide), Typ.smap h.f hT (by simp), Typ.smap h.c hT (by simp)⟩
theorem HostOk.setSrc {B : Nat} {I : HostI} {bs : List Nat} {d : HostD} (h : HostOk B I bs d) (n : Nat) : HostOk B I bs { d with last := n } := ⟨h.bl, h.ms, h.len, h.nd, h.rn, h.few, h.ok, h.eok, h.fok, h.name, h.timeout, h.nf, h.cop, h.files⟩
theorem HF.setSrc {w w' : World} {B : Nat} {I : HostI} {bs : List Nat} {sv wv : Value} {d : HostD} (h : HostX w B I bs sv wv d) (k : HostOk B I bs d) (hC : Chg (fun k => k = I.S) w w') : Chg (HF B I w) w w' := hC.mono fun i _ e => by subst e; exact Typ.of h.s.b k.bl.2.1 (by decide)
/-- The queue was changed. -/
theorem HostX.setQue {w w' : World} {B : Nat} {I : HostI} {bs : List Nat} {sv wv : Value} {d : HostD} (h : HostX w B I bs sv wv d) (k : HostOk B I bs d) (q : QueD) (hq : QueM w' B I.Q I.M q) (hC : Chg (Typ qTs [I.M] B w) w w') : HostX w' B I bs sv wv { d with q := q } :=
 ⟨Typ.blk h.h hC (by decide), h.s.chg hC (Typ.not h.s.b (by decide)), hq, Typ.row h.r hC (by decide), fun i b x hb hx => ⟨Typ.blk (h.e i b x hb hx).1 hC (by decide), (h.e i b x hb hx).2⟩, Typ.smap h.m hC (by simp; exact k.ms.1), Typ.row h.wt hC (by decide), Typ.smap h.f hC (by simp; exact k.ms.2.1), Typ.smap h.c hC (by simp; exact k.ms.2.2.1)⟩
theorem HostOk.setQue {B : Nat} {I : HostI} {bs : List Nat} {d : HostD} (h : HostOk B I bs d) (q : QueD) : HostOk B I bs { d with q := q } := ⟨h.bl, h.ms, h.len, h.nd, h.rn, h.few, h.ok, h.eok, h.fok, h.name, h.timeout, h.nf, h.cop, h.files⟩
theorem HF.setQue {w w' : World} {B : Nat} {I : HostI} (hC : Chg (Typ qTs [I.M] B w) w w') : Chg (HF B I w) w w' := Typ.mono hC (by decide) (by simp [hMs]) (Nat.le_refl _)
/-- A sale's block was written anew. -/
theorem HostX.setSale {w w' : World} {B : Nat} {I : HostI} {bs : List Nat} {sv wv : Value} {d : HostD} (h : HostX w B I bs sv wv d) (k : HostOk B I bs d) (i b : Nat) (x x' : SaleD) (hb : bs[i]? = some b) (hx : d.sales[i]? = some x) (hr : x'.ref = x.ref) (hn : Blk w' b (salCells x') 88) (hC : Chg (fun k => k = b) w w') : HostX w' B I bs sv wv { d with sales := d.sales.set i x' } := by
 have hbk := (h.e i b x hb hx).1
 have hT : Chg (Typ [88] [] 0 w) w w' := hC.mono fun k _ e => by subst e; exact Typ.of hbk (Nat.zero_le _) (by simp)
 have hil := (List.getElem?_eq_some_iff.1 hx).1
 have hrefs : refsOf { d with sales := d.sales.set i x' } = refsOf d := by
  unfold refsOf
  simp only [List.map_set]
  apply List.ext_getElem?
  intro j
  rw [List.getElem?_set]
  by_cases hj : i = j
  · subst hj
    rw [if_pos rfl, if_pos (by rw [List.length_map]; exact hil), List.getElem?_map, hx, hr]; rfl
  · rw [if_neg hj]
 refine ⟨Typ.blk h.h hT (by decide), h.s.chg hT (Typ.not h.s.b (by decide)), h.q.chg hT (by decide) (by decide) (by simp), Typ.row h.r hT (by decide), fun j c y hc hy => ?_, ?_, Typ.row h.wt hT (by decide), Typ.smap h.f hT (by simp), Typ.smap h.c hT (by simp)⟩
 · by_cases hj : i = j
   · subst hj
     rw [hb] at hc
     injection hc with hc
     subst hc
     simp only [List.getElem?_set, if_pos hil] at hy
     injection hy with hy
     subst hy
     exact ⟨hn, (h.e i b x hb hx).2⟩
   · simp only [List.getElem?_set, if_neg hj] at hy
     have he := h.e j c y hc hy
     have hne : c ≠ b := by
      intro e
      subst e
      obtain ⟨h1, h2⟩ := List.getElem?_eq_some_iff.1 hb
      obtain ⟨h3, h4⟩ := List.getElem?_eq_some_iff.1 hc
      exact hj ((List.getElem_inj k.nd).1 (h2.trans h4.symm))
     exact ⟨he.1.chg hC hne, he.2⟩
 · have h1 := Typ.smap h.m hT (by simp)
   rw [hrefs]
   simpa using h1
theorem HostOk.setSale {B : Nat} {I : HostI} {bs : List Nat} {d : HostD} (h : HostOk B I bs d) (i : Nat) (x x' : SaleD) (hx : d.sales[i]? = some x) (hr : x'.ref = x.ref) (hok : SaleOk x') : HostOk B I bs { d with sales := d.sales.set i x' } := by
 have hil := (List.getElem?_eq_some_iff.1 hx).1
 refine ⟨h.bl, h.ms, by simpa using h.len, h.nd, ?_, by simpa using h.few, fun y hy => ?_, h.eok, h.fok, h.name, h.timeout, h.nf, h.cop, h.files⟩
 · have e : ((d.sales.set i x').map fun x => x.ref.data.toList) = d.sales.map fun x => x.ref.data.toList := by
    rw [List.map_set]
    apply List.ext_getElem?
    intro j
    rw [List.getElem?_set]
    by_cases hj : i = j
    · subst hj
      rw [if_pos rfl, if_pos (by rw [List.length_map]; exact hil), List.getElem?_map, hx, hr]; rfl
    · rw [if_neg hj]
   show ((d.sales.set i x').map fun x => x.ref.data.toList).Nodup
   rw [e]
   exact h.rn
 · rcases List.mem_or_eq_of_mem_set hy with hy | hy
   · exact h.ok y hy
   · subst hy; exact hok
theorem HF.setSale {w w' : World} {B : Nat} {I : HostI} {bs : List Nat} {sv wv : Value} {d : HostD} (h : HostX w B I bs sv wv d) (i b : Nat) (x : SaleD) (hb : bs[i]? = some b) (hx : d.sales[i]? = some x) (hC : Chg (fun k => k = b) w w') : Chg (HF B I w) w w' := hC.mono fun k _ e => by subst e; exact Typ.of (h.e i _ x hb hx).1 (h.e i _ x hb hx).2 (by decide)
/-- Where the row of the sales lies. -/
theorem ptrLie {w : World} {B : Nat} {v : Value} {l : List Nat} {T : TypeId} (h : RowR ptrL T w B v l) : (v = .slice none 0 0 ∧ l = []) ∨ ∃ g off cap, v = .slice (some ⟨g, off, none⟩) l.length cap ∧ B ≤ g ∧ g < w.heap.size ∧ l.length ≤ cap ∧ cap ≤ maxLen ∧ ∀ i x, l[i]? = some x → w.cell? ⟨g, off + i, none⟩ = some (ptrV x) := by
 rcases h.lie with h | ⟨g, off, cap, h1, h2, h3, h4, h5, -, h7⟩
 · exact Or.inl h
 · refine Or.inr ⟨g, off, cap, h1, h2, h3, h4, h5, fun i x hx => ?_⟩
   have h8 := h7 i x hx 0 _ rfl
   rw [show off + i * ptrL.sz + 0 = off + i by simp [ptrL]] at h8
   exact h8
/-- Whether a time is permitted. -/
def permB (d : HostD) (at' : Int) : Bool := decide (0 ≤ (dayV at').1) && decide (d.now ≤ at')
set_option maxHeartbeats 1000000 in
theorem permitted_any (B : Nat) (I : HostI) (d : HostD) (at' : Int) (w : World) (h : HostM w B I d) : Calls Tryz.prog 23 #[.pointer (some ⟨I.X, 0, none⟩), .int .i64 at'] w (OneQ (.bool (permB d at')) w) := by
 obtain ⟨bs, sv, wv, h, -⟩ := h
 have y2 : w.cell? ⟨I.X, 2, none⟩ = some (.int .i64 d.now) := h.h.cell 2
 have kD := Lib.hid (day_any at' w)
 unfold permB
 generalize (dayV at').1 = D at *
 generalize (dayV at').2 = D2 at *
 generalize d.now = N at *
 clear h
 by_cases h0 : 0 ≤ D
 · have q0 : decide (0 ≤ D) = true := decide_eq_true h0
   by_cases h1 : N ≤ at'
   · have q1 : decide (N ≤ at') = true := decide_eq_true h1
     rw [q0, q1]
     go_enter Tryz.func23, Tryz.ntmps23
     go_wp2_with fail
     refine kD.out.mono ?_
     rintro e w1 ⟨rfl, hE⟩
     replace y2 := hE.get y2
     go_wp2
     try go_ret
     exact ⟨rfl, hE⟩
   · have q1 : decide (N ≤ at') = false := decide_eq_false h1
     rw [q0, q1]
     go_enter Tryz.func23, Tryz.ntmps23
     go_wp2_with fail
     refine kD.out.mono ?_
     rintro e w1 ⟨rfl, hE⟩
     replace y2 := hE.get y2
     go_wp2
     try go_ret
     exact ⟨rfl, hE⟩
 · have q0 : decide (0 ≤ D) = false := decide_eq_false h0
   rw [q0]
   go_enter Tryz.func23, Tryz.ntmps23
   go_wp2_with fail
   refine kD.out.mono ?_
   rintro e w1 ⟨rfl, hE⟩
   go_wp2
   try go_ret
   exact ⟨rfl, hE⟩
end Go.Proofs.YtkggloeaojkhaaaGreatDoor
