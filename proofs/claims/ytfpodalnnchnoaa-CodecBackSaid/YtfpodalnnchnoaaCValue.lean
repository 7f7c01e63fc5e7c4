/- codec's taker: a value is taken. Conditions: the taker holds a reader of these bytes. -/
import Derived.Test.YtfpodalnnchnoaaCTk
namespace Go.Proofs.Ytfpodalnnchnoaa
open Go.RowKit
section
variable {w w' : World} {T R n c : Nat} {O : Option Addr} {bs : List UInt8} {s : St}
theorem Tk.far (h : Tk w T R O n c bs s) {g : Nat} {t : TypeId} {cs : Array Value} (hb : Blk w g t cs) (ht : 5 ≠ t) (hT : g ≠ T) (hR : g ≠ R) (hg : w.grownBy w' (some g)) : Tk w' T R O n c bs s :=
  ⟨h.blk.apart hg (Ne.symm hT), h.rdr.grown hg (fun e => hR (by injection e)) (.inr (own_ne h.rdr.own hb ht))⟩
theorem Two.new_ (h : Two w w' T R) {p : Addr} (hp : w.heap.size ≤ p.block) (v : Value) : Two w (w'.setCell p v) T R :=
  ⟨h.os, h.tape, h.output, by simpa [World.setCell] using h.size, fun b hb h1 h2 => (Below.heap_setCell w' p v b (by rintro rfl; omega)).trans (h.block b hb h1 h2)⟩
theorem Two.row (h : Two w w' T R) {g : Nat} {w'' : World} (hp : w.heap.size ≤ g) (hg : w'.grownBy w'' (some g)) : Two w w'' T R :=
  ⟨hg.os.trans h.os, hg.tape.trans h.tape, hg.output.trans h.output, Nat.le_trans h.size hg.size, fun b hb h1 h2 => (hg.block b (Nat.lt_of_lt_of_le hb h.size) (by intro e; injection e with e; omega)).trans (h.block b hb h1 h2)⟩
theorem set_grown (w : World) (g i : Nat) (v : Value) : w.grownBy (w.setCell ⟨g, i, none⟩ v) (some g) := only_setCell (World.grownBy.refl w _) (.inl rfl) _
theorem Two.refl_al (w : World) (T R : Nat) (o : Obj) : Two w (w.alloc o) T R := Two.of_below (bl_al (Below.refl _ _) o)
theorem valI : (Try.prog.info? 24).map (·.size) = some 4 := by kernel_rfl
theorem one4 (k n u : Int) (s : ByteArray) : (#[.int .i64 k, .int .i64 n, .int .u64 u, .string s] : Array Value).all (·.oneCell') = true := by simp [Value.oneCell']
end
def kS (bs : List UInt8) (s : St) : Nat := wv (rdO bs s.p s.why 1)
def xS (bs : List UInt8) (s : St) : Nat := wv (rdO bs s.p s.why 8)
def s1S (bs : List UInt8) (s : St) : St := nd (rdS bs s 1) (decide ((kS bs s : Int) ≤ 4))
def finS (v : VV) (s : St) : VV × St := (v, nd s v.ok)
def i64w (x : Nat) : Int := IntKind.i64.wrap (x : Int)
def tS (bs : List UInt8) (s : St) : St := nd (rdS bs s 1) (decide ((kS bs s : Int) ≤ 40))
def bS (bs : List UInt8) (s : St) (m : Nat) : ByteArray := ⟨(rdO bs s.p s.why (m : Int)).toArray⟩
def txtS (bs : List UInt8) (s : St) : VV × St := if okS (tS bs s) then finS ⟨3, 0, 0, bS bs (tS bs s) (kS bs s)⟩ (rdS bs (tS bs s) (kS bs s : Int)) else finS ⟨3, 0, 0, ⟨#[]⟩⟩ (tS bs s)
/-- a value is taken: what it is, and where the taker is behind it -/
def valS (bs : List UInt8) (s : St) : VV × St :=
  if okS (s1S bs s) = false then (⟨kS bs s, 0, 0, ⟨#[]⟩⟩, s1S bs s)
  else if kS bs s = 1 then finS ⟨1, kS bs (s1S bs s), 0, ⟨#[]⟩⟩ (rdS bs (s1S bs s) 1)
  else if kS bs s = 2 then finS ⟨2, i64w (xS bs (s1S bs s)), 0, ⟨#[]⟩⟩ (rdS bs (s1S bs s) 8)
  else if kS bs s = 3 then txtS bs (s1S bs s)
  else if kS bs s = 4 then finS ⟨4, i64w (xS bs (s1S bs s)), xS bs (rdS bs (s1S bs s) 8), ⟨#[]⟩⟩ (rdS bs (rdS bs (s1S bs s) 8) 8)
  else finS ⟨kS bs s, 0, 0, ⟨#[]⟩⟩ (s1S bs s)
/-- it returns a value, and the taker is on -/
def retV (w : World) (T R : Nat) (O : Option Addr) (n c : Nat) (bs : List UInt8) (r : VV × St) (x : Ending) (w' : World) : Prop :=
  x = .returned (.agg #[.int .i64 r.1.k, .int .i64 r.1.n, .int .u64 r.1.u, .string r.1.s]) ∧ Tk w' T R O n c bs r.2 ∧ Two w w' T R
section
variable (T R : Nat) (O : Option Addr) (n c : Nat) (bs : List UInt8) (s : St) (w : World)
/-- a number of one byte is read -/
theorem tu8 (h : Tk w T R O n c bs s) : Calls Try.prog 48 #[.pointer (some ⟨R, 0, none⟩)] w fun e w' => e = .returned (.int .u8 (kS bs s : Nat)) ∧ Tk w' T R O n c bs (rdS bs s 1) ∧ w.grownBy w' (some R) :=
  (u8_any R O n c bs s.p s.why w h.rdr).mono fun _ _ ⟨he, hr, hg⟩ => ⟨he, h.reader hr hg, hg⟩
theorem tu64 (h : Tk w T R O n c bs s) : Calls Try.prog 51 #[.pointer (some ⟨R, 0, none⟩)] w fun e w' => e = .returned (.int .u64 (xS bs s : Nat)) ∧ Tk w' T R O n c bs (rdS bs s 8) ∧ w.grownBy w' (some R) :=
  (u64_any R O n c bs s.p s.why w h.rdr).mono fun _ _ ⟨he, hr, hg⟩ => ⟨he, h.reader hr hg, hg⟩
theorem traw (m : Nat) (hm : m ≤ 9223372036854775807) (h : Tk w T R O n c bs s) : Calls Try.prog 52 #[.pointer (some ⟨R, 0, none⟩), .int .i64 (m : Int)] w fun e w' => ∃ A' c',
    e = .returned (.slice A' (rdO bs s.p s.why (m : Int)).length c') ∧ RdB w' A' (rdO bs s.p s.why (m : Int)).length (rdO bs s.p s.why (m : Int)) ∧ Tk w' T R O n c bs (rdS bs s (m : Int)) ∧ w.grownBy w' (some R) :=
  (raw_any R O n c bs s.p s.why (m : Int) w h.rdr (by omega)).mono fun _ _ ⟨A', c', he, ho, hr, hg⟩ => ⟨A', c', he, ho.rd, h.reader hr hg, hg⟩
end
theorem kS_lt (bs : List UInt8) (s : St) : kS bs s < 256 := wv_bound bs s.p s.why 1 (by decide)
theorem xS_lt (bs : List UInt8) (s : St) : xS bs s < 18446744073709551616 := wv_bound bs s.p s.why 8 (by decide)
theorem chk_any (v : VV) (w : World) : Calls Try.prog 26 #[.agg #[.int .i64 v.k, .int .i64 v.n, .int .u64 v.u, .string v.s]] w fun e w' => e = .returned (.int .i64 (if v.ok then 0 else 120)) ∧ Below w.heap.size w w' := check_any v.k v.n v.u v.s w
set_option maxRecDepth 100000 in
set_option maxHeartbeats 4000000 in
theorem value_e (T R : Nat) (O : Option Addr) (n c : Nat) (bs : List UInt8) (s : St) (w : World) (h : Tk w T R O n c bs s) (ho : okS (s1S bs s) = false) :
    Calls Try.prog 38 #[.pointer (some ⟨T, 0, none⟩)] w (retV w T R O n c bs ((⟨kS bs s, 0, 0, ⟨#[]⟩⟩, s1S bs s))) := by
  have hx := kS_lt bs s
  have HU := Lib.hid (fun w h => tu8 T R O n c bs (s) w h)
  have HN := Lib.hid (show ∀ w, Tk w T R O n c bs (rdS bs s 1) → Calls Try.prog 46 #[.pointer (some ⟨T, 0, none⟩), .bool (decide ((kS bs s : Int) ≤ 4))] w fun e w' => e = .returned (.tuple #[]) ∧ Tk w' T R O n c bs (s1S bs s) ∧ Two w w' T R from fun w h => need_any T R O n c bs (rdS bs s 1) (decide ((kS bs s : Int) ≤ 4)) w h)
  have HO := Lib.hid (show ∀ w, Tk w T R O n c bs (s1S bs s) → Calls Try.prog 50 #[.pointer (some ⟨T, 0, none⟩)] w fun e w' => e = .returned (.bool false) ∧ w = w' from fun w h => by have := ok_any T R O n c bs (s1S bs s) w h; rwa [ho] at this)
  clear ho
  generalize s1S bs s = s1 at *
  generalize kS bs s = x at *
  have hwr : IntKind.i64.wrap (x : Int) = (x : Int) := by rw [IntKind.wrap_i64]; omega
  have nT := h.blk.lt
  have nR := h.rdr.lt
  have hV := Blk.new w 24 #[.int .i64 0, .int .i64 0, .int .u64 0, .string ⟨#[]⟩]
  have hk := h.below (bl_al (Below.refl w.heap.size w) (.cells #[.int .i64 0, .int .i64 0, .int .u64 0, .string ⟨#[]⟩] 24))
  have tw := Two.refl_al w T R (.cells #[.int .i64 0, .int .i64 0, .int .u64 0, .string ⟨#[]⟩] 24)
  have vT : w.heap.size ≠ T := by omega
  have vR : w.heap.size ≠ R := by omega
  clear h nT nR
  have t0 : (w.alloc (.cells #[.int .i64 0, .int .i64 0, .int .u64 0, .string ⟨#[]⟩] 24)).cell? ⟨T, 0, none⟩ = some (.pointer (some ⟨R, 0, none⟩)) := hk.blk.cell 0
  go_enter Try.func38, Try.ntmps38
  go_wp2_with fail
  clear t0
  generalize (w.alloc (.cells #[.int .i64 0, .int .i64 0, .int .u64 0, .string ⟨#[]⟩] 24)) = w1 at *
  refine (HU.out _ hk).mono ?_
  rintro e w2 ⟨rfl, hkn, hg⟩
  replace hk := hkn
  clear hkn
  replace hV := hV.apart hg vR
  replace tw := tw.trans (Two.of_R hg)
  clear hg
  have t0 : w2.cell? ⟨T, 0, none⟩ = some (.pointer (some ⟨R, 0, none⟩)) := hk.blk.cell 0
  have v0 : w2.cell? ⟨w.heap.size, 0, none⟩ = some (.int .i64 0) := hV.cell 0
  have v1 : w2.cell? ⟨w.heap.size, 1, none⟩ = some (.int .i64 0) := hV.cell 1
  have v2 : w2.cell? ⟨w.heap.size, 2, none⟩ = some (.int .u64 0) := hV.cell 2
  have v3 : w2.cell? ⟨w.heap.size, 3, none⟩ = some (.string ⟨#[]⟩) := hV.cell 3
  have fz : w2.frozen? ⟨w.heap.size, 0, none⟩ = false := hV.frozen 0
  replace hk := hk.far hV (by decide) vT vR (set_grown w2 w.heap.size 0 (.int .i64 (x : Int)))
  replace tw := tw.new_ (p := ⟨w.heap.size, 0, none⟩) (Nat.le_refl _) (.int .i64 (x : Int))
  replace hV : Blk (w2.setCell ⟨w.heap.size, 0, none⟩ (.int .i64 (x : Int))) w.heap.size 24 #[.int .i64 (x : Int), .int .i64 0, .int .u64 0, .string ⟨#[]⟩] := by simpa using hV.set_ 0 (.int .i64 (x : Int))
  have t9 : (w2.setCell ⟨w.heap.size, 0, none⟩ (.int .i64 (x : Int))).cell? ⟨T, 0, none⟩ = some (.pointer (some ⟨R, 0, none⟩)) := hk.blk.cell 0
  have y0 : (w2.setCell ⟨w.heap.size, 0, none⟩ (.int .i64 (x : Int))).cell? ⟨w.heap.size, 0, none⟩ = some (.int .i64 (x : Int)) := hV.cell 0
  have y1 : (w2.setCell ⟨w.heap.size, 0, none⟩ (.int .i64 (x : Int))).cell? ⟨w.heap.size, 1, none⟩ = some (.int .i64 0) := hV.cell 1
  have y2 : (w2.setCell ⟨w.heap.size, 0, none⟩ (.int .i64 (x : Int))).cell? ⟨w.heap.size, 2, none⟩ = some (.int .u64 0) := hV.cell 2
  have y3 : (w2.setCell ⟨w.heap.size, 0, none⟩ (.int .i64 (x : Int))).cell? ⟨w.heap.size, 3, none⟩ = some (.string ⟨#[]⟩) := hV.cell 3
  go_wp2_with fail
  clear v0 v1 v2 v3 t9 fz y0 y1 y2 y3
  clear t0
  generalize (w2.setCell ⟨w.heap.size, 0, none⟩ (.int .i64 (x : Int))) = w3 at *
  refine (HN.out _ hk).mono ?_
  rintro e w4 ⟨rfl, hkn, tg⟩
  replace hk := hkn
  clear hkn
  replace hV := tg.blk hV vT vR
  replace tw := tw.trans tg
  clear tg
  have t0 : w4.cell? ⟨T, 0, none⟩ = some (.pointer (some ⟨R, 0, none⟩)) := hk.blk.cell 0
  go_wp2_with fail
  clear t0
  refine (HO.out _ hk).mono ?_
  rintro e w5 ⟨rfl, rfl⟩
  have t0 : w4.cell? ⟨T, 0, none⟩ = some (.pointer (some ⟨R, 0, none⟩)) := hk.blk.cell 0
  have v0 : w4.cell? ⟨w.heap.size, 0, none⟩ = some (.int .i64 (x : Int)) := hV.cell 0
  have v1 : w4.cell? ⟨w.heap.size, 1, none⟩ = some (.int .i64 0) := hV.cell 1
  have v2 : w4.cell? ⟨w.heap.size, 2, none⟩ = some (.int .u64 0) := hV.cell 2
  have v3 : w4.cell? ⟨w.heap.size, 3, none⟩ = some (.string ⟨#[]⟩) := hV.cell 3
  have KR := Lib.hid hV
  have HK := Lib.hid hk
  have TWH := Lib.hid tw
  have HS := Lib.hid (fun w2 (g2 : w4.grownBy w2 (some w.heap.size)) => hk.far hV (by decide) vT vR g2)
  clear hV hk tw
  go_wp2_with (refine wpList_store_blk rfl 24 (.tmp 2) (.tmp 19) rfl w.heap.size 24 #[.int .i64 (x : Int), .int .i64 0, .int .u64 0, .string ⟨#[]⟩] #[.int .i64 (x : Int), .int .i64 0, .int .u64 0, .string ⟨#[]⟩] rfl rfl KR.out rfl valI (one4 _ _ _ _) ?_; intro wz hZ gz)
  exact bodyPost_ret (res1 Try.results38 rfl hZ Try.underlying24 rfl valI) rfl ⟨rfl, HS.out _ gz, TWH.out.row (Nat.le_refl _) gz⟩
set_option maxRecDepth 100000 in
set_option maxHeartbeats 4000000 in
theorem value_0 (T R : Nat) (O : Option Addr) (n c : Nat) (bs : List UInt8) (s : St) (w : World) (h : Tk w T R O n c bs s) (hx : kS bs s = 0) (ho : okS (s1S bs s) = true) :
    Calls Try.prog 38 #[.pointer (some ⟨T, 0, none⟩)] w (retV w T R O n c bs ((⟨0, 0, 0, ⟨#[]⟩⟩, nd (s1S bs s) true))) := by
  have HU := Lib.hid (show ∀ w, Tk w T R O n c bs (s) → Calls Try.prog 48 #[.pointer (some ⟨R, 0, none⟩)] w fun e w' => e = .returned (.int .u8 0) ∧ Tk w' T R O n c bs (rdS bs (s) 1) ∧ w.grownBy w' (some R) from fun w h => by have := tu8 T R O n c bs (s) w h; rwa [hx] at this)
  have HN := Lib.hid (show ∀ w, Tk w T R O n c bs (rdS bs s 1) → Calls Try.prog 46 #[.pointer (some ⟨T, 0, none⟩), .bool true] w fun e w' => e = .returned (.tuple #[]) ∧ Tk w' T R O n c bs (s1S bs s) ∧ Two w w' T R from fun w h => by have := need_any T R O n c bs (rdS bs s 1) true w h; rwa [show nd (rdS bs s 1) true = s1S bs s from by unfold s1S; rw [hx]; rfl] at this)
  have HO := Lib.hid (show ∀ w, Tk w T R O n c bs (s1S bs s) → Calls Try.prog 50 #[.pointer (some ⟨T, 0, none⟩)] w fun e w' => e = .returned (.bool true) ∧ w = w' from fun w h => by have := ok_any T R O n c bs (s1S bs s) w h; rwa [ho] at this)
  have HCK := Lib.hid (show ∀ w, Calls Try.prog 26 #[.agg #[.int .i64 0, .int .i64 0, .int .u64 0, .string ⟨#[]⟩]] w fun e w' => e = .returned (.int .i64 0) ∧ Below w.heap.size w w' from fun w => ck_y (⟨0, 0, 0, ⟨#[]⟩⟩) (by decide +kernel) w)
  have HF := Lib.hid (show ∀ w, Tk w T R O n c bs (s1S bs s) → Calls Try.prog 46 #[.pointer (some ⟨T, 0, none⟩), .bool (true)] w fun e w' => e = .returned (.tuple #[]) ∧ Tk w' T R O n c bs (nd (s1S bs s) true) ∧ Two w w' T R from fun w h => need_any T R O n c bs (s1S bs s) (true) w h)
  clear hx ho
  generalize s1S bs s = s1 at *
  have nT := h.blk.lt
  have nR := h.rdr.lt
  have hV := Blk.new w 24 #[.int .i64 0, .int .i64 0, .int .u64 0, .string ⟨#[]⟩]
  have hk := h.below (bl_al (Below.refl w.heap.size w) (.cells #[.int .i64 0, .int .i64 0, .int .u64 0, .string ⟨#[]⟩] 24))
  have tw := Two.refl_al w T R (.cells #[.int .i64 0, .int .i64 0, .int .u64 0, .string ⟨#[]⟩] 24)
  have vT : w.heap.size ≠ T := by omega
  have vR : w.heap.size ≠ R := by omega
  clear h nT nR
  have t0 : (w.alloc (.cells #[.int .i64 0, .int .i64 0, .int .u64 0, .string ⟨#[]⟩] 24)).cell? ⟨T, 0, none⟩ = some (.pointer (some ⟨R, 0, none⟩)) := hk.blk.cell 0
  go_enter Try.func38, Try.ntmps38
  go_wp2_with fail
  clear t0
  generalize (w.alloc (.cells #[.int .i64 0, .int .i64 0, .int .u64 0, .string ⟨#[]⟩] 24)) = w1 at *
  refine (HU.out _ hk).mono ?_
  rintro e w2 ⟨rfl, hkn, hg⟩
  replace hk := hkn
  clear hkn
  replace hV := hV.apart hg vR
  replace tw := tw.trans (Two.of_R hg)
  clear hg
  have t0 : w2.cell? ⟨T, 0, none⟩ = some (.pointer (some ⟨R, 0, none⟩)) := hk.blk.cell 0
  have v0 : w2.cell? ⟨w.heap.size, 0, none⟩ = some (.int .i64 0) := hV.cell 0
  have v1 : w2.cell? ⟨w.heap.size, 1, none⟩ = some (.int .i64 0) := hV.cell 1
  have v2 : w2.cell? ⟨w.heap.size, 2, none⟩ = some (.int .u64 0) := hV.cell 2
  have v3 : w2.cell? ⟨w.heap.size, 3, none⟩ = some (.string ⟨#[]⟩) := hV.cell 3
  have fz : w2.frozen? ⟨w.heap.size, 0, none⟩ = false := hV.frozen 0
  replace hk := hk.far hV (by decide) vT vR (set_grown w2 w.heap.size 0 (.int .i64 0))
  replace tw := tw.new_ (p := ⟨w.heap.size, 0, none⟩) (Nat.le_refl _) (.int .i64 0)
  replace hV : Blk (w2.setCell ⟨w.heap.size, 0, none⟩ (.int .i64 0)) w.heap.size 24 #[.int .i64 0, .int .i64 0, .int .u64 0, .string ⟨#[]⟩] := by simpa using hV.set_ 0 (.int .i64 0)
  have t9 : (w2.setCell ⟨w.heap.size, 0, none⟩ (.int .i64 0)).cell? ⟨T, 0, none⟩ = some (.pointer (some ⟨R, 0, none⟩)) := hk.blk.cell 0
  have y0 : (w2.setCell ⟨w.heap.size, 0, none⟩ (.int .i64 0)).cell? ⟨w.heap.size, 0, none⟩ = some (.int .i64 0) := hV.cell 0
  have y1 : (w2.setCell ⟨w.heap.size, 0, none⟩ (.int .i64 0)).cell? ⟨w.heap.size, 1, none⟩ = some (.int .i64 0) := hV.cell 1
  have y2 : (w2.setCell ⟨w.heap.size, 0, none⟩ (.int .i64 0)).cell? ⟨w.heap.size, 2, none⟩ = some (.int .u64 0) := hV.cell 2
  have y3 : (w2.setCell ⟨w.heap.size, 0, none⟩ (.int .i64 0)).cell? ⟨w.heap.size, 3, none⟩ = some (.string ⟨#[]⟩) := hV.cell 3
  go_wp2_with fail
  clear v0 v1 v2 v3 t9 fz y0 y1 y2 y3
  clear t0
  generalize (w2.setCell ⟨w.heap.size, 0, none⟩ (.int .i64 0)) = w3 at *
  refine (HN.out _ hk).mono ?_
  rintro e w4 ⟨rfl, hkn, tg⟩
  replace hk := hkn
  clear hkn
  replace hV := tg.blk hV vT vR
  replace tw := tw.trans tg
  clear tg
  have t0 : w4.cell? ⟨T, 0, none⟩ = some (.pointer (some ⟨R, 0, none⟩)) := hk.blk.cell 0
  go_wp2_with fail
  clear t0
  refine (HO.out _ hk).mono ?_
  rintro e w5 ⟨rfl, rfl⟩
  have t0 : w4.cell? ⟨T, 0, none⟩ = some (.pointer (some ⟨R, 0, none⟩)) := hk.blk.cell 0
  have v0 : w4.cell? ⟨w.heap.size, 0, none⟩ = some (.int .i64 0) := hV.cell 0
  have v1 : w4.cell? ⟨w.heap.size, 1, none⟩ = some (.int .i64 0) := hV.cell 1
  have v2 : w4.cell? ⟨w.heap.size, 2, none⟩ = some (.int .u64 0) := hV.cell 2
  have v3 : w4.cell? ⟨w.heap.size, 3, none⟩ = some (.string ⟨#[]⟩) := hV.cell 3
  go_wp2_with fail
  clear v0 v1 v2 v3
  clear t0
  refine (HCK.out _).mono ?_
  rintro e w6 ⟨rfl, q⟩
  replace hV := hV.ca q
  replace hk := hk.below q
  replace tw := tw.trans (Two.of_below q)
  clear q
  have t0 : w6.cell? ⟨T, 0, none⟩ = some (.pointer (some ⟨R, 0, none⟩)) := hk.blk.cell 0
  go_wp2_with fail
  clear t0
  refine (HF.out _ hk).mono ?_
  rintro e w7 ⟨rfl, hkn, tg⟩
  replace hk := hkn
  clear hkn
  replace hV := tg.blk hV vT vR
  replace tw := tw.trans tg
  clear tg
  have t0 : w7.cell? ⟨T, 0, none⟩ = some (.pointer (some ⟨R, 0, none⟩)) := hk.blk.cell 0
  have v0 : w7.cell? ⟨w.heap.size, 0, none⟩ = some (.int .i64 0) := hV.cell 0
  have v1 : w7.cell? ⟨w.heap.size, 1, none⟩ = some (.int .i64 0) := hV.cell 1
  have v2 : w7.cell? ⟨w.heap.size, 2, none⟩ = some (.int .u64 0) := hV.cell 2
  have v3 : w7.cell? ⟨w.heap.size, 3, none⟩ = some (.string ⟨#[]⟩) := hV.cell 3
  have KR := Lib.hid hV
  have HK := Lib.hid hk
  have TWH := Lib.hid tw
  have HS := Lib.hid (fun w2 (g2 : w7.grownBy w2 (some w.heap.size)) => hk.far hV (by decide) vT vR g2)
  clear hV hk tw
  go_wp2_with (refine wpList_store_blk rfl 24 (.tmp 2) (.tmp 82) rfl w.heap.size 24 #[.int .i64 0, .int .i64 0, .int .u64 0, .string ⟨#[]⟩] #[.int .i64 0, .int .i64 0, .int .u64 0, .string ⟨#[]⟩] rfl rfl KR.out rfl valI (one4 _ _ _ _) ?_; intro wz hZ gz)
  exact bodyPost_ret (res1 Try.results38 rfl hZ Try.underlying24 rfl valI) rfl ⟨rfl, HS.out _ gz, TWH.out.row (Nat.le_refl _) gz⟩
set_option maxRecDepth 100000 in
set_option maxHeartbeats 4000000 in
theorem value_1y (T R : Nat) (O : Option Addr) (n c : Nat) (bs : List UInt8) (s : St) (w : World) (h : Tk w T R O n c bs s) (hx : kS bs s = 1) (ho : okS (s1S bs s) = true) (hv : VV.ok ⟨1, kS bs (s1S bs s), 0, ⟨#[]⟩⟩ = true) :
    Calls Try.prog 38 #[.pointer (some ⟨T, 0, none⟩)] w (retV w T R O n c bs ((⟨1, kS bs (s1S bs s), 0, ⟨#[]⟩⟩, nd (rdS bs (s1S bs s) 1) true))) := by
  have HU := Lib.hid (show ∀ w, Tk w T R O n c bs (s) → Calls Try.prog 48 #[.pointer (some ⟨R, 0, none⟩)] w fun e w' => e = .returned (.int .u8 1) ∧ Tk w' T R O n c bs (rdS bs (s) 1) ∧ w.grownBy w' (some R) from fun w h => by have := tu8 T R O n c bs (s) w h; rwa [hx] at this)
  have HN := Lib.hid (show ∀ w, Tk w T R O n c bs (rdS bs s 1) → Calls Try.prog 46 #[.pointer (some ⟨T, 0, none⟩), .bool true] w fun e w' => e = .returned (.tuple #[]) ∧ Tk w' T R O n c bs (s1S bs s) ∧ Two w w' T R from fun w h => by have := need_any T R O n c bs (rdS bs s 1) true w h; rwa [show nd (rdS bs s 1) true = s1S bs s from by unfold s1S; rw [hx]; rfl] at this)
  have HO := Lib.hid (show ∀ w, Tk w T R O n c bs (s1S bs s) → Calls Try.prog 50 #[.pointer (some ⟨T, 0, none⟩)] w fun e w' => e = .returned (.bool true) ∧ w = w' from fun w h => by have := ok_any T R O n c bs (s1S bs s) w h; rwa [ho] at this)
  obtain ⟨y, hy⟩ : ∃ y, y = kS bs (s1S bs s) := ⟨_, rfl⟩
  rw [← hy] at hv ⊢
  have hy2 : y < 256 := by rw [hy]; exact kS_lt _ _
  have HU2 := Lib.hid (show ∀ w, Tk w T R O n c bs (s1S bs s) → Calls Try.prog 48 #[.pointer (some ⟨R, 0, none⟩)] w fun e w' => e = .returned (.int .u8 (y : Int)) ∧ Tk w' T R O n c bs (rdS bs (s1S bs s) 1) ∧ w.grownBy w' (some R) from fun w h => by have := tu8 T R O n c bs (s1S bs s) w h; rwa [← hy] at this)
  have HCK := Lib.hid (show ∀ w, Calls Try.prog 26 #[.agg #[.int .i64 1, .int .i64 (y : Int), .int .u64 0, .string ⟨#[]⟩]] w fun e w' => e = .returned (.int .i64 0) ∧ Below w.heap.size w w' from fun w => ck_y (⟨1, y, 0, ⟨#[]⟩⟩) (hv) w)
  have HF := Lib.hid (show ∀ w, Tk w T R O n c bs (rdS bs (s1S bs s) 1) → Calls Try.prog 46 #[.pointer (some ⟨T, 0, none⟩), .bool (true)] w fun e w' => e = .returned (.tuple #[]) ∧ Tk w' T R O n c bs (nd (rdS bs (s1S bs s) 1) true) ∧ Two w w' T R from fun w h => need_any T R O n c bs (rdS bs (s1S bs s) 1) (true) w h)
  clear hx ho hv hy
  generalize s1S bs s = s1 at *
  have hwr : IntKind.i64.wrap (y : Int) = (y : Int) := by rw [IntKind.wrap_i64]; omega
  have nT := h.blk.lt
  have nR := h.rdr.lt
  have hV := Blk.new w 24 #[.int .i64 0, .int .i64 0, .int .u64 0, .string ⟨#[]⟩]
  have hk := h.below (bl_al (Below.refl w.heap.size w) (.cells #[.int .i64 0, .int .i64 0, .int .u64 0, .string ⟨#[]⟩] 24))
  have tw := Two.refl_al w T R (.cells #[.int .i64 0, .int .i64 0, .int .u64 0, .string ⟨#[]⟩] 24)
  have vT : w.heap.size ≠ T := by omega
  have vR : w.heap.size ≠ R := by omega
  clear h nT nR
  have t0 : (w.alloc (.cells #[.int .i64 0, .int .i64 0, .int .u64 0, .string ⟨#[]⟩] 24)).cell? ⟨T, 0, none⟩ = some (.pointer (some ⟨R, 0, none⟩)) := hk.blk.cell 0
  go_enter Try.func38, Try.ntmps38
  go_wp2_with fail
  clear t0
  generalize (w.alloc (.cells #[.int .i64 0, .int .i64 0, .int .u64 0, .string ⟨#[]⟩] 24)) = w1 at *
  refine (HU.out _ hk).mono ?_
  rintro e w2 ⟨rfl, hkn, hg⟩
  replace hk := hkn
  clear hkn
  replace hV := hV.apart hg vR
  replace tw := tw.trans (Two.of_R hg)
  clear hg
  have t0 : w2.cell? ⟨T, 0, none⟩ = some (.pointer (some ⟨R, 0, none⟩)) := hk.blk.cell 0
  have v0 : w2.cell? ⟨w.heap.size, 0, none⟩ = some (.int .i64 0) := hV.cell 0
  have v1 : w2.cell? ⟨w.heap.size, 1, none⟩ = some (.int .i64 0) := hV.cell 1
  have v2 : w2.cell? ⟨w.heap.size, 2, none⟩ = some (.int .u64 0) := hV.cell 2
  have v3 : w2.cell? ⟨w.heap.size, 3, none⟩ = some (.string ⟨#[]⟩) := hV.cell 3
  have fz : w2.frozen? ⟨w.heap.size, 0, none⟩ = false := hV.frozen 0
  replace hk := hk.far hV (by decide) vT vR (set_grown w2 w.heap.size 0 (.int .i64 1))
  replace tw := tw.new_ (p := ⟨w.heap.size, 0, none⟩) (Nat.le_refl _) (.int .i64 1)
  replace hV : Blk (w2.setCell ⟨w.heap.size, 0, none⟩ (.int .i64 1)) w.heap.size 24 #[.int .i64 1, .int .i64 0, .int .u64 0, .string ⟨#[]⟩] := by simpa using hV.set_ 0 (.int .i64 1)
  have t9 : (w2.setCell ⟨w.heap.size, 0, none⟩ (.int .i64 1)).cell? ⟨T, 0, none⟩ = some (.pointer (some ⟨R, 0, none⟩)) := hk.blk.cell 0
  have y0 : (w2.setCell ⟨w.heap.size, 0, none⟩ (.int .i64 1)).cell? ⟨w.heap.size, 0, none⟩ = some (.int .i64 1) := hV.cell 0
  have y1 : (w2.setCell ⟨w.heap.size, 0, none⟩ (.int .i64 1)).cell? ⟨w.heap.size, 1, none⟩ = some (.int .i64 0) := hV.cell 1
  have y2 : (w2.setCell ⟨w.heap.size, 0, none⟩ (.int .i64 1)).cell? ⟨w.heap.size, 2, none⟩ = some (.int .u64 0) := hV.cell 2
  have y3 : (w2.setCell ⟨w.heap.size, 0, none⟩ (.int .i64 1)).cell? ⟨w.heap.size, 3, none⟩ = some (.string ⟨#[]⟩) := hV.cell 3
  go_wp2_with fail
  clear v0 v1 v2 v3 t9 fz y0 y1 y2 y3
  clear t0
  generalize (w2.setCell ⟨w.heap.size, 0, none⟩ (.int .i64 1)) = w3 at *
  refine (HN.out _ hk).mono ?_
  rintro e w4 ⟨rfl, hkn, tg⟩
  replace hk := hkn
  clear hkn
  replace hV := tg.blk hV vT vR
  replace tw := tw.trans tg
  clear tg
  have t0 : w4.cell? ⟨T, 0, none⟩ = some (.pointer (some ⟨R, 0, none⟩)) := hk.blk.cell 0
  go_wp2_with fail
  clear t0
  refine (HO.out _ hk).mono ?_
  rintro e w5 ⟨rfl, rfl⟩
  have t0 : w4.cell? ⟨T, 0, none⟩ = some (.pointer (some ⟨R, 0, none⟩)) := hk.blk.cell 0
  have v0 : w4.cell? ⟨w.heap.size, 0, none⟩ = some (.int .i64 1) := hV.cell 0
  have v1 : w4.cell? ⟨w.heap.size, 1, none⟩ = some (.int .i64 0) := hV.cell 1
  have v2 : w4.cell? ⟨w.heap.size, 2, none⟩ = some (.int .u64 0) := hV.cell 2
  have v3 : w4.cell? ⟨w.heap.size, 3, none⟩ = some (.string ⟨#[]⟩) := hV.cell 3
  go_wp2_with fail
  clear v0 v1 v2 v3
  clear t0
  refine (HU2.out _ hk).mono ?_
  rintro e w6 ⟨rfl, hkn, hg⟩
  replace hk := hkn
  clear hkn
  replace hV := hV.apart hg vR
  replace tw := tw.trans (Two.of_R hg)
  clear hg
  have t0 : w6.cell? ⟨T, 0, none⟩ = some (.pointer (some ⟨R, 0, none⟩)) := hk.blk.cell 0
  have v0 : w6.cell? ⟨w.heap.size, 0, none⟩ = some (.int .i64 1) := hV.cell 0
  have v1 : w6.cell? ⟨w.heap.size, 1, none⟩ = some (.int .i64 0) := hV.cell 1
  have v2 : w6.cell? ⟨w.heap.size, 2, none⟩ = some (.int .u64 0) := hV.cell 2
  have v3 : w6.cell? ⟨w.heap.size, 3, none⟩ = some (.string ⟨#[]⟩) := hV.cell 3
  have fz : w6.frozen? ⟨w.heap.size, 1, none⟩ = false := hV.frozen 1
  replace hk := hk.far hV (by decide) vT vR (set_grown w6 w.heap.size 1 (.int .i64 (y : Int)))
  replace tw := tw.new_ (p := ⟨w.heap.size, 1, none⟩) (Nat.le_refl _) (.int .i64 (y : Int))
  replace hV : Blk (w6.setCell ⟨w.heap.size, 1, none⟩ (.int .i64 (y : Int))) w.heap.size 24 #[.int .i64 1, .int .i64 (y : Int), .int .u64 0, .string ⟨#[]⟩] := by simpa using hV.set_ 1 (.int .i64 (y : Int))
  have t9 : (w6.setCell ⟨w.heap.size, 1, none⟩ (.int .i64 (y : Int))).cell? ⟨T, 0, none⟩ = some (.pointer (some ⟨R, 0, none⟩)) := hk.blk.cell 0
  have y0 : (w6.setCell ⟨w.heap.size, 1, none⟩ (.int .i64 (y : Int))).cell? ⟨w.heap.size, 0, none⟩ = some (.int .i64 1) := hV.cell 0
  have y1 : (w6.setCell ⟨w.heap.size, 1, none⟩ (.int .i64 (y : Int))).cell? ⟨w.heap.size, 1, none⟩ = some (.int .i64 (y : Int)) := hV.cell 1
  have y2 : (w6.setCell ⟨w.heap.size, 1, none⟩ (.int .i64 (y : Int))).cell? ⟨w.heap.size, 2, none⟩ = some (.int .u64 0) := hV.cell 2
  have y3 : (w6.setCell ⟨w.heap.size, 1, none⟩ (.int .i64 (y : Int))).cell? ⟨w.heap.size, 3, none⟩ = some (.string ⟨#[]⟩) := hV.cell 3
  go_wp2_with fail
  clear v0 v1 v2 v3 t9 fz y0 y1 y2 y3
  clear t0
  generalize (w6.setCell ⟨w.heap.size, 1, none⟩ (.int .i64 (y : Int))) = w7 at *
  refine (HCK.out _).mono ?_
  rintro e w8 ⟨rfl, q⟩
  replace hV := hV.ca q
  replace hk := hk.below q
  replace tw := tw.trans (Two.of_below q)
  clear q
  have t0 : w8.cell? ⟨T, 0, none⟩ = some (.pointer (some ⟨R, 0, none⟩)) := hk.blk.cell 0
  go_wp2_with fail
  clear t0
  refine (HF.out _ hk).mono ?_
  rintro e w9 ⟨rfl, hkn, tg⟩
  replace hk := hkn
  clear hkn
  replace hV := tg.blk hV vT vR
  replace tw := tw.trans tg
  clear tg
  have t0 : w9.cell? ⟨T, 0, none⟩ = some (.pointer (some ⟨R, 0, none⟩)) := hk.blk.cell 0
  have v0 : w9.cell? ⟨w.heap.size, 0, none⟩ = some (.int .i64 1) := hV.cell 0
  have v1 : w9.cell? ⟨w.heap.size, 1, none⟩ = some (.int .i64 (y : Int)) := hV.cell 1
  have v2 : w9.cell? ⟨w.heap.size, 2, none⟩ = some (.int .u64 0) := hV.cell 2
  have v3 : w9.cell? ⟨w.heap.size, 3, none⟩ = some (.string ⟨#[]⟩) := hV.cell 3
  have KR := Lib.hid hV
  have HK := Lib.hid hk
  have TWH := Lib.hid tw
  have HS := Lib.hid (fun w2 (g2 : w9.grownBy w2 (some w.heap.size)) => hk.far hV (by decide) vT vR g2)
  clear hV hk tw
  go_wp2_with (refine wpList_store_blk rfl 24 (.tmp 2) (.tmp 82) rfl w.heap.size 24 #[.int .i64 1, .int .i64 (y : Int), .int .u64 0, .string ⟨#[]⟩] #[.int .i64 1, .int .i64 (y : Int), .int .u64 0, .string ⟨#[]⟩] rfl rfl KR.out rfl valI (one4 _ _ _ _) ?_; intro wz hZ gz)
  exact bodyPost_ret (res1 Try.results38 rfl hZ Try.underlying24 rfl valI) rfl ⟨rfl, HS.out _ gz, TWH.out.row (Nat.le_refl _) gz⟩
set_option maxRecDepth 100000 in
set_option maxHeartbeats 4000000 in
theorem value_1n (T R : Nat) (O : Option Addr) (n c : Nat) (bs : List UInt8) (s : St) (w : World) (h : Tk w T R O n c bs s) (hx : kS bs s = 1) (ho : okS (s1S bs s) = true) (hv : VV.ok ⟨1, kS bs (s1S bs s), 0, ⟨#[]⟩⟩ = false) :
    Calls Try.prog 38 #[.pointer (some ⟨T, 0, none⟩)] w (retV w T R O n c bs ((⟨1, kS bs (s1S bs s), 0, ⟨#[]⟩⟩, nd (rdS bs (s1S bs s) 1) false))) := by
  have HU := Lib.hid (show ∀ w, Tk w T R O n c bs (s) → Calls Try.prog 48 #[.pointer (some ⟨R, 0, none⟩)] w fun e w' => e = .returned (.int .u8 1) ∧ Tk w' T R O n c bs (rdS bs (s) 1) ∧ w.grownBy w' (some R) from fun w h => by have := tu8 T R O n c bs (s) w h; rwa [hx] at this)
  have HN := Lib.hid (show ∀ w, Tk w T R O n c bs (rdS bs s 1) → Calls Try.prog 46 #[.pointer (some ⟨T, 0, none⟩), .bool true] w fun e w' => e = .returned (.tuple #[]) ∧ Tk w' T R O n c bs (s1S bs s) ∧ Two w w' T R from fun w h => by have := need_any T R O n c bs (rdS bs s 1) true w h; rwa [show nd (rdS bs s 1) true = s1S bs s from by unfold s1S; rw [hx]; rfl] at this)
  have HO := Lib.hid (show ∀ w, Tk w T R O n c bs (s1S bs s) → Calls Try.prog 50 #[.pointer (some ⟨T, 0, none⟩)] w fun e w' => e = .returned (.bool true) ∧ w = w' from fun w h => by have := ok_any T R O n c bs (s1S bs s) w h; rwa [ho] at this)
  obtain ⟨y, hy⟩ : ∃ y, y = kS bs (s1S bs s) := ⟨_, rfl⟩
  rw [← hy] at hv ⊢
  have hy2 : y < 256 := by rw [hy]; exact kS_lt _ _
  have HU2 := Lib.hid (show ∀ w, Tk w T R O n c bs (s1S bs s) → Calls Try.prog 48 #[.pointer (some ⟨R, 0, none⟩)] w fun e w' => e = .returned (.int .u8 (y : Int)) ∧ Tk w' T R O n c bs (rdS bs (s1S bs s) 1) ∧ w.grownBy w' (some R) from fun w h => by have := tu8 T R O n c bs (s1S bs s) w h; rwa [← hy] at this)
  have HCK := Lib.hid (show ∀ w, Calls Try.prog 26 #[.agg #[.int .i64 1, .int .i64 (y : Int), .int .u64 0, .string ⟨#[]⟩]] w fun e w' => e = .returned (.int .i64 120) ∧ Below w.heap.size w w' from fun w => ck_n (⟨1, y, 0, ⟨#[]⟩⟩) (hv) w)
  have HF := Lib.hid (show ∀ w, Tk w T R O n c bs (rdS bs (s1S bs s) 1) → Calls Try.prog 46 #[.pointer (some ⟨T, 0, none⟩), .bool (false)] w fun e w' => e = .returned (.tuple #[]) ∧ Tk w' T R O n c bs (nd (rdS bs (s1S bs s) 1) false) ∧ Two w w' T R from fun w h => need_any T R O n c bs (rdS bs (s1S bs s) 1) (false) w h)
  clear hx ho hv hy
  generalize s1S bs s = s1 at *
  have hwr : IntKind.i64.wrap (y : Int) = (y : Int) := by rw [IntKind.wrap_i64]; omega
  have nT := h.blk.lt
  have nR := h.rdr.lt
  have hV := Blk.new w 24 #[.int .i64 0, .int .i64 0, .int .u64 0, .string ⟨#[]⟩]
  have hk := h.below (bl_al (Below.refl w.heap.size w) (.cells #[.int .i64 0, .int .i64 0, .int .u64 0, .string ⟨#[]⟩] 24))
  have tw := Two.refl_al w T R (.cells #[.int .i64 0, .int .i64 0, .int .u64 0, .string ⟨#[]⟩] 24)
  have vT : w.heap.size ≠ T := by omega
  have vR : w.heap.size ≠ R := by omega
  clear h nT nR
  have t0 : (w.alloc (.cells #[.int .i64 0, .int .i64 0, .int .u64 0, .string ⟨#[]⟩] 24)).cell? ⟨T, 0, none⟩ = some (.pointer (some ⟨R, 0, none⟩)) := hk.blk.cell 0
  go_enter Try.func38, Try.ntmps38
  go_wp2_with fail
  clear t0
  generalize (w.alloc (.cells #[.int .i64 0, .int .i64 0, .int .u64 0, .string ⟨#[]⟩] 24)) = w1 at *
  refine (HU.out _ hk).mono ?_
  rintro e w2 ⟨rfl, hkn, hg⟩
  replace hk := hkn
  clear hkn
  replace hV := hV.apart hg vR
  replace tw := tw.trans (Two.of_R hg)
  clear hg
  have t0 : w2.cell? ⟨T, 0, none⟩ = some (.pointer (some ⟨R, 0, none⟩)) := hk.blk.cell 0
  have v0 : w2.cell? ⟨w.heap.size, 0, none⟩ = some (.int .i64 0) := hV.cell 0
  have v1 : w2.cell? ⟨w.heap.size, 1, none⟩ = some (.int .i64 0) := hV.cell 1
  have v2 : w2.cell? ⟨w.heap.size, 2, none⟩ = some (.int .u64 0) := hV.cell 2
  have v3 : w2.cell? ⟨w.heap.size, 3, none⟩ = some (.string ⟨#[]⟩) := hV.cell 3
  have fz : w2.frozen? ⟨w.heap.size, 0, none⟩ = false := hV.frozen 0
  replace hk := hk.far hV (by decide) vT vR (set_grown w2 w.heap.size 0 (.int .i64 1))
  replace tw := tw.new_ (p := ⟨w.heap.size, 0, none⟩) (Nat.le_refl _) (.int .i64 1)
  replace hV : Blk (w2.setCell ⟨w.heap.size, 0, none⟩ (.int .i64 1)) w.heap.size 24 #[.int .i64 1, .int .i64 0, .int .u64 0, .string ⟨#[]⟩] := by simpa using hV.set_ 0 (.int .i64 1)
  have t9 : (w2.setCell ⟨w.heap.size, 0, none⟩ (.int .i64 1)).cell? ⟨T, 0, none⟩ = some (.pointer (some ⟨R, 0, none⟩)) := hk.blk.cell 0
  have y0 : (w2.setCell ⟨w.heap.size, 0, none⟩ (.int .i64 1)).cell? ⟨w.heap.size, 0, none⟩ = some (.int .i64 1) := hV.cell 0
  have y1 : (w2.setCell ⟨w.heap.size, 0, none⟩ (.int .i64 1)).cell? ⟨w.heap.size, 1, none⟩ = some (.int .i64 0) := hV.cell 1
  have y2 : (w2.setCell ⟨w.heap.size, 0, none⟩ (.int .i64 1)).cell? ⟨w.heap.size, 2, none⟩ = some (.int .u64 0) := hV.cell 2
  have y3 : (w2.setCell ⟨w.heap.size, 0, none⟩ (.int .i64 1)).cell? ⟨w.heap.size, 3, none⟩ = some (.string ⟨#[]⟩) := hV.cell 3
  go_wp2_with fail
  clear v0 v1 v2 v3 t9 fz y0 y1 y2 y3
  clear t0
  generalize (w2.setCell ⟨w.heap.size, 0, none⟩ (.int .i64 1)) = w3 at *
  refine (HN.out _ hk).mono ?_
  rintro e w4 ⟨rfl, hkn, tg⟩
  replace hk := hkn
  clear hkn
  replace hV := tg.blk hV vT vR
  replace tw := tw.trans tg
  clear tg
  have t0 : w4.cell? ⟨T, 0, none⟩ = some (.pointer (some ⟨R, 0, none⟩)) := hk.blk.cell 0
  go_wp2_with fail
  clear t0
  refine (HO.out _ hk).mono ?_
  rintro e w5 ⟨rfl, rfl⟩
  have t0 : w4.cell? ⟨T, 0, none⟩ = some (.pointer (some ⟨R, 0, none⟩)) := hk.blk.cell 0
  have v0 : w4.cell? ⟨w.heap.size, 0, none⟩ = some (.int .i64 1) := hV.cell 0
  have v1 : w4.cell? ⟨w.heap.size, 1, none⟩ = some (.int .i64 0) := hV.cell 1
  have v2 : w4.cell? ⟨w.heap.size, 2, none⟩ = some (.int .u64 0) := hV.cell 2
  have v3 : w4.cell? ⟨w.heap.size, 3, none⟩ = some (.string ⟨#[]⟩) := hV.cell 3
  go_wp2_with fail
  clear v0 v1 v2 v3
  clear t0
  refine (HU2.out _ hk).mono ?_
  rintro e w6 ⟨rfl, hkn, hg⟩
  replace hk := hkn
  clear hkn
  replace hV := hV.apart hg vR
  replace tw := tw.trans (Two.of_R hg)
  clear hg
  have t0 : w6.cell? ⟨T, 0, none⟩ = some (.pointer (some ⟨R, 0, none⟩)) := hk.blk.cell 0
  have v0 : w6.cell? ⟨w.heap.size, 0, none⟩ = some (.int .i64 1) := hV.cell 0
  have v1 : w6.cell? ⟨w.heap.size, 1, none⟩ = some (.int .i64 0) := hV.cell 1
  have v2 : w6.cell? ⟨w.heap.size, 2, none⟩ = some (.int .u64 0) := hV.cell 2
  have v3 : w6.cell? ⟨w.heap.size, 3, none⟩ = some (.string ⟨#[]⟩) := hV.cell 3
  have fz : w6.frozen? ⟨w.heap.size, 1, none⟩ = false := hV.frozen 1
  replace hk := hk.far hV (by decide) vT vR (set_grown w6 w.heap.size 1 (.int .i64 (y : Int)))
  replace tw := tw.new_ (p := ⟨w.heap.size, 1, none⟩) (Nat.le_refl _) (.int .i64 (y : Int))
  replace hV : Blk (w6.setCell ⟨w.heap.size, 1, none⟩ (.int .i64 (y : Int))) w.heap.size 24 #[.int .i64 1, .int .i64 (y : Int), .int .u64 0, .string ⟨#[]⟩] := by simpa using hV.set_ 1 (.int .i64 (y : Int))
  have t9 : (w6.setCell ⟨w.heap.size, 1, none⟩ (.int .i64 (y : Int))).cell? ⟨T, 0, none⟩ = some (.pointer (some ⟨R, 0, none⟩)) := hk.blk.cell 0
  have y0 : (w6.setCell ⟨w.heap.size, 1, none⟩ (.int .i64 (y : Int))).cell? ⟨w.heap.size, 0, none⟩ = some (.int .i64 1) := hV.cell 0
  have y1 : (w6.setCell ⟨w.heap.size, 1, none⟩ (.int .i64 (y : Int))).cell? ⟨w.heap.size, 1, none⟩ = some (.int .i64 (y : Int)) := hV.cell 1
  have y2 : (w6.setCell ⟨w.heap.size, 1, none⟩ (.int .i64 (y : Int))).cell? ⟨w.heap.size, 2, none⟩ = some (.int .u64 0) := hV.cell 2
  have y3 : (w6.setCell ⟨w.heap.size, 1, none⟩ (.int .i64 (y : Int))).cell? ⟨w.heap.size, 3, none⟩ = some (.string ⟨#[]⟩) := hV.cell 3
  go_wp2_with fail
  clear v0 v1 v2 v3 t9 fz y0 y1 y2 y3
  clear t0
  generalize (w6.setCell ⟨w.heap.size, 1, none⟩ (.int .i64 (y : Int))) = w7 at *
  refine (HCK.out _).mono ?_
  rintro e w8 ⟨rfl, q⟩
  replace hV := hV.ca q
  replace hk := hk.below q
  replace tw := tw.trans (Two.of_below q)
  clear q
  have t0 : w8.cell? ⟨T, 0, none⟩ = some (.pointer (some ⟨R, 0, none⟩)) := hk.blk.cell 0
  go_wp2_with fail
  clear t0
  refine (HF.out _ hk).mono ?_
  rintro e w9 ⟨rfl, hkn, tg⟩
  replace hk := hkn
  clear hkn
  replace hV := tg.blk hV vT vR
  replace tw := tw.trans tg
  clear tg
  have t0 : w9.cell? ⟨T, 0, none⟩ = some (.pointer (some ⟨R, 0, none⟩)) := hk.blk.cell 0
  have v0 : w9.cell? ⟨w.heap.size, 0, none⟩ = some (.int .i64 1) := hV.cell 0
  have v1 : w9.cell? ⟨w.heap.size, 1, none⟩ = some (.int .i64 (y : Int)) := hV.cell 1
  have v2 : w9.cell? ⟨w.heap.size, 2, none⟩ = some (.int .u64 0) := hV.cell 2
  have v3 : w9.cell? ⟨w.heap.size, 3, none⟩ = some (.string ⟨#[]⟩) := hV.cell 3
  have KR := Lib.hid hV
  have HK := Lib.hid hk
  have TWH := Lib.hid tw
  have HS := Lib.hid (fun w2 (g2 : w9.grownBy w2 (some w.heap.size)) => hk.far hV (by decide) vT vR g2)
  clear hV hk tw
  go_wp2_with (refine wpList_store_blk rfl 24 (.tmp 2) (.tmp 82) rfl w.heap.size 24 #[.int .i64 1, .int .i64 (y : Int), .int .u64 0, .string ⟨#[]⟩] #[.int .i64 1, .int .i64 (y : Int), .int .u64 0, .string ⟨#[]⟩] rfl rfl KR.out rfl valI (one4 _ _ _ _) ?_; intro wz hZ gz)
  exact bodyPost_ret (res1 Try.results38 rfl hZ Try.underlying24 rfl valI) rfl ⟨rfl, HS.out _ gz, TWH.out.row (Nat.le_refl _) gz⟩
set_option maxRecDepth 100000 in
set_option maxHeartbeats 4000000 in
theorem value_2 (T R : Nat) (O : Option Addr) (n c : Nat) (bs : List UInt8) (s : St) (w : World) (h : Tk w T R O n c bs s) (hx : kS bs s = 2) (ho : okS (s1S bs s) = true) :
    Calls Try.prog 38 #[.pointer (some ⟨T, 0, none⟩)] w (retV w T R O n c bs ((⟨2, i64w (xS bs (s1S bs s)), 0, ⟨#[]⟩⟩, nd (rdS bs (s1S bs s) 8) true))) := by
  have HU := Lib.hid (show ∀ w, Tk w T R O n c bs (s) → Calls Try.prog 48 #[.pointer (some ⟨R, 0, none⟩)] w fun e w' => e = .returned (.int .u8 2) ∧ Tk w' T R O n c bs (rdS bs (s) 1) ∧ w.grownBy w' (some R) from fun w h => by have := tu8 T R O n c bs (s) w h; rwa [hx] at this)
  have HN := Lib.hid (show ∀ w, Tk w T R O n c bs (rdS bs s 1) → Calls Try.prog 46 #[.pointer (some ⟨T, 0, none⟩), .bool true] w fun e w' => e = .returned (.tuple #[]) ∧ Tk w' T R O n c bs (s1S bs s) ∧ Two w w' T R from fun w h => by have := need_any T R O n c bs (rdS bs s 1) true w h; rwa [show nd (rdS bs s 1) true = s1S bs s from by unfold s1S; rw [hx]; rfl] at this)
  have HO := Lib.hid (show ∀ w, Tk w T R O n c bs (s1S bs s) → Calls Try.prog 50 #[.pointer (some ⟨T, 0, none⟩)] w fun e w' => e = .returned (.bool true) ∧ w = w' from fun w h => by have := ok_any T R O n c bs (s1S bs s) w h; rwa [ho] at this)
  have HU2 := Lib.hid (fun w h => tu64 T R O n c bs (s1S bs s) w h)
  have hz := Lib.hid (show IntKind.i64.wrap (xS bs (s1S bs s) : Int) = i64w (xS bs (s1S bs s)) from rfl)
  have HCK := Lib.hid (show ∀ w, Calls Try.prog 26 #[.agg #[.int .i64 2, .int .i64 (i64w (xS bs (s1S bs s))), .int .u64 0, .string ⟨#[]⟩]] w fun e w' => e = .returned (.int .i64 0) ∧ Below w.heap.size w w' from fun w => ck_y (⟨2, i64w (xS bs (s1S bs s)), 0, ⟨#[]⟩⟩) (by simp [VV.ok, rightB]) w)
  have HF := Lib.hid (show ∀ w, Tk w T R O n c bs (rdS bs (s1S bs s) 8) → Calls Try.prog 46 #[.pointer (some ⟨T, 0, none⟩), .bool (true)] w fun e w' => e = .returned (.tuple #[]) ∧ Tk w' T R O n c bs (nd (rdS bs (s1S bs s) 8) true) ∧ Two w w' T R from fun w h => need_any T R O n c bs (rdS bs (s1S bs s) 8) (true) w h)
  clear hx ho
  generalize s1S bs s = s1 at *
  generalize i64w (xS bs s1) = z at *
  generalize xS bs s1 = x at *
  have hwr := hz.out
  have nT := h.blk.lt
  have nR := h.rdr.lt
  have hV := Blk.new w 24 #[.int .i64 0, .int .i64 0, .int .u64 0, .string ⟨#[]⟩]
  have hk := h.below (bl_al (Below.refl w.heap.size w) (.cells #[.int .i64 0, .int .i64 0, .int .u64 0, .string ⟨#[]⟩] 24))
  have tw := Two.refl_al w T R (.cells #[.int .i64 0, .int .i64 0, .int .u64 0, .string ⟨#[]⟩] 24)
  have vT : w.heap.size ≠ T := by omega
  have vR : w.heap.size ≠ R := by omega
  clear h nT nR
  have t0 : (w.alloc (.cells #[.int .i64 0, .int .i64 0, .int .u64 0, .string ⟨#[]⟩] 24)).cell? ⟨T, 0, none⟩ = some (.pointer (some ⟨R, 0, none⟩)) := hk.blk.cell 0
  go_enter Try.func38, Try.ntmps38
  go_wp2_with fail
  clear t0
  generalize (w.alloc (.cells #[.int .i64 0, .int .i64 0, .int .u64 0, .string ⟨#[]⟩] 24)) = w1 at *
  refine (HU.out _ hk).mono ?_
  rintro e w2 ⟨rfl, hkn, hg⟩
  replace hk := hkn
  clear hkn
  replace hV := hV.apart hg vR
  replace tw := tw.trans (Two.of_R hg)
  clear hg
  have t0 : w2.cell? ⟨T, 0, none⟩ = some (.pointer (some ⟨R, 0, none⟩)) := hk.blk.cell 0
  have v0 : w2.cell? ⟨w.heap.size, 0, none⟩ = some (.int .i64 0) := hV.cell 0
  have v1 : w2.cell? ⟨w.heap.size, 1, none⟩ = some (.int .i64 0) := hV.cell 1
  have v2 : w2.cell? ⟨w.heap.size, 2, none⟩ = some (.int .u64 0) := hV.cell 2
  have v3 : w2.cell? ⟨w.heap.size, 3, none⟩ = some (.string ⟨#[]⟩) := hV.cell 3
  have fz : w2.frozen? ⟨w.heap.size, 0, none⟩ = false := hV.frozen 0
  replace hk := hk.far hV (by decide) vT vR (set_grown w2 w.heap.size 0 (.int .i64 2))
  replace tw := tw.new_ (p := ⟨w.heap.size, 0, none⟩) (Nat.le_refl _) (.int .i64 2)
  replace hV : Blk (w2.setCell ⟨w.heap.size, 0, none⟩ (.int .i64 2)) w.heap.size 24 #[.int .i64 2, .int .i64 0, .int .u64 0, .string ⟨#[]⟩] := by simpa using hV.set_ 0 (.int .i64 2)
  have t9 : (w2.setCell ⟨w.heap.size, 0, none⟩ (.int .i64 2)).cell? ⟨T, 0, none⟩ = some (.pointer (some ⟨R, 0, none⟩)) := hk.blk.cell 0
  have y0 : (w2.setCell ⟨w.heap.size, 0, none⟩ (.int .i64 2)).cell? ⟨w.heap.size, 0, none⟩ = some (.int .i64 2) := hV.cell 0
  have y1 : (w2.setCell ⟨w.heap.size, 0, none⟩ (.int .i64 2)).cell? ⟨w.heap.size, 1, none⟩ = some (.int .i64 0) := hV.cell 1
  have y2 : (w2.setCell ⟨w.heap.size, 0, none⟩ (.int .i64 2)).cell? ⟨w.heap.size, 2, none⟩ = some (.int .u64 0) := hV.cell 2
  have y3 : (w2.setCell ⟨w.heap.size, 0, none⟩ (.int .i64 2)).cell? ⟨w.heap.size, 3, none⟩ = some (.string ⟨#[]⟩) := hV.cell 3
  go_wp2_with fail
  clear v0 v1 v2 v3 t9 fz y0 y1 y2 y3
  clear t0
  generalize (w2.setCell ⟨w.heap.size, 0, none⟩ (.int .i64 2)) = w3 at *
  refine (HN.out _ hk).mono ?_
  rintro e w4 ⟨rfl, hkn, tg⟩
  replace hk := hkn
  clear hkn
  replace hV := tg.blk hV vT vR
  replace tw := tw.trans tg
  clear tg
  have t0 : w4.cell? ⟨T, 0, none⟩ = some (.pointer (some ⟨R, 0, none⟩)) := hk.blk.cell 0
  go_wp2_with fail
  clear t0
  refine (HO.out _ hk).mono ?_
  rintro e w5 ⟨rfl, rfl⟩
  have t0 : w4.cell? ⟨T, 0, none⟩ = some (.pointer (some ⟨R, 0, none⟩)) := hk.blk.cell 0
  have v0 : w4.cell? ⟨w.heap.size, 0, none⟩ = some (.int .i64 2) := hV.cell 0
  have v1 : w4.cell? ⟨w.heap.size, 1, none⟩ = some (.int .i64 0) := hV.cell 1
  have v2 : w4.cell? ⟨w.heap.size, 2, none⟩ = some (.int .u64 0) := hV.cell 2
  have v3 : w4.cell? ⟨w.heap.size, 3, none⟩ = some (.string ⟨#[]⟩) := hV.cell 3
  go_wp2_with fail
  clear v0 v1 v2 v3
  clear t0
  refine (HU2.out _ hk).mono ?_
  rintro e w6 ⟨rfl, hkn, hg⟩
  replace hk := hkn
  clear hkn
  replace hV := hV.apart hg vR
  replace tw := tw.trans (Two.of_R hg)
  clear hg
  have t0 : w6.cell? ⟨T, 0, none⟩ = some (.pointer (some ⟨R, 0, none⟩)) := hk.blk.cell 0
  have v0 : w6.cell? ⟨w.heap.size, 0, none⟩ = some (.int .i64 2) := hV.cell 0
  have v1 : w6.cell? ⟨w.heap.size, 1, none⟩ = some (.int .i64 0) := hV.cell 1
  have v2 : w6.cell? ⟨w.heap.size, 2, none⟩ = some (.int .u64 0) := hV.cell 2
  have v3 : w6.cell? ⟨w.heap.size, 3, none⟩ = some (.string ⟨#[]⟩) := hV.cell 3
  have fz : w6.frozen? ⟨w.heap.size, 1, none⟩ = false := hV.frozen 1
  replace hk := hk.far hV (by decide) vT vR (set_grown w6 w.heap.size 1 (.int .i64 z))
  replace tw := tw.new_ (p := ⟨w.heap.size, 1, none⟩) (Nat.le_refl _) (.int .i64 z)
  replace hV : Blk (w6.setCell ⟨w.heap.size, 1, none⟩ (.int .i64 z)) w.heap.size 24 #[.int .i64 2, .int .i64 z, .int .u64 0, .string ⟨#[]⟩] := by simpa using hV.set_ 1 (.int .i64 z)
  have t9 : (w6.setCell ⟨w.heap.size, 1, none⟩ (.int .i64 z)).cell? ⟨T, 0, none⟩ = some (.pointer (some ⟨R, 0, none⟩)) := hk.blk.cell 0
  have y0 : (w6.setCell ⟨w.heap.size, 1, none⟩ (.int .i64 z)).cell? ⟨w.heap.size, 0, none⟩ = some (.int .i64 2) := hV.cell 0
  have y1 : (w6.setCell ⟨w.heap.size, 1, none⟩ (.int .i64 z)).cell? ⟨w.heap.size, 1, none⟩ = some (.int .i64 z) := hV.cell 1
  have y2 : (w6.setCell ⟨w.heap.size, 1, none⟩ (.int .i64 z)).cell? ⟨w.heap.size, 2, none⟩ = some (.int .u64 0) := hV.cell 2
  have y3 : (w6.setCell ⟨w.heap.size, 1, none⟩ (.int .i64 z)).cell? ⟨w.heap.size, 3, none⟩ = some (.string ⟨#[]⟩) := hV.cell 3
  go_wp2_with fail
  clear v0 v1 v2 v3 t9 fz y0 y1 y2 y3
  clear t0
  generalize (w6.setCell ⟨w.heap.size, 1, none⟩ (.int .i64 z)) = w7 at *
  refine (HCK.out _).mono ?_
  rintro e w8 ⟨rfl, q⟩
  replace hV := hV.ca q
  replace hk := hk.below q
  replace tw := tw.trans (Two.of_below q)
  clear q
  have t0 : w8.cell? ⟨T, 0, none⟩ = some (.pointer (some ⟨R, 0, none⟩)) := hk.blk.cell 0
  go_wp2_with fail
  clear t0
  refine (HF.out _ hk).mono ?_
  rintro e w9 ⟨rfl, hkn, tg⟩
  replace hk := hkn
  clear hkn
  replace hV := tg.blk hV vT vR
  replace tw := tw.trans tg
  clear tg
  have t0 : w9.cell? ⟨T, 0, none⟩ = some (.pointer (some ⟨R, 0, none⟩)) := hk.blk.cell 0
  have v0 : w9.cell? ⟨w.heap.size, 0, none⟩ = some (.int .i64 2) := hV.cell 0
  have v1 : w9.cell? ⟨w.heap.size, 1, none⟩ = some (.int .i64 z) := hV.cell 1
  have v2 : w9.cell? ⟨w.heap.size, 2, none⟩ = some (.int .u64 0) := hV.cell 2
  have v3 : w9.cell? ⟨w.heap.size, 3, none⟩ = some (.string ⟨#[]⟩) := hV.cell 3
  have KR := Lib.hid hV
  have HK := Lib.hid hk
  have TWH := Lib.hid tw
  have HS := Lib.hid (fun w2 (g2 : w9.grownBy w2 (some w.heap.size)) => hk.far hV (by decide) vT vR g2)
  clear hV hk tw
  go_wp2_with (refine wpList_store_blk rfl 24 (.tmp 2) (.tmp 82) rfl w.heap.size 24 #[.int .i64 2, .int .i64 z, .int .u64 0, .string ⟨#[]⟩] #[.int .i64 2, .int .i64 z, .int .u64 0, .string ⟨#[]⟩] rfl rfl KR.out rfl valI (one4 _ _ _ _) ?_; intro wz hZ gz)
  exact bodyPost_ret (res1 Try.results38 rfl hZ Try.underlying24 rfl valI) rfl ⟨rfl, HS.out _ gz, TWH.out.row (Nat.le_refl _) gz⟩
set_option maxRecDepth 100000 in
set_option maxHeartbeats 4000000 in
theorem value_4 (T R : Nat) (O : Option Addr) (n c : Nat) (bs : List UInt8) (s : St) (w : World) (h : Tk w T R O n c bs s) (hx : kS bs s = 4) (ho : okS (s1S bs s) = true) :
    Calls Try.prog 38 #[.pointer (some ⟨T, 0, none⟩)] w (retV w T R O n c bs ((⟨4, i64w (xS bs (s1S bs s)), xS bs (rdS bs (s1S bs s) 8), ⟨#[]⟩⟩, nd (rdS bs (rdS bs (s1S bs s) 8) 8) true))) := by
  have HU := Lib.hid (show ∀ w, Tk w T R O n c bs (s) → Calls Try.prog 48 #[.pointer (some ⟨R, 0, none⟩)] w fun e w' => e = .returned (.int .u8 4) ∧ Tk w' T R O n c bs (rdS bs (s) 1) ∧ w.grownBy w' (some R) from fun w h => by have := tu8 T R O n c bs (s) w h; rwa [hx] at this)
  have HN := Lib.hid (show ∀ w, Tk w T R O n c bs (rdS bs s 1) → Calls Try.prog 46 #[.pointer (some ⟨T, 0, none⟩), .bool true] w fun e w' => e = .returned (.tuple #[]) ∧ Tk w' T R O n c bs (s1S bs s) ∧ Two w w' T R from fun w h => by have := need_any T R O n c bs (rdS bs s 1) true w h; rwa [show nd (rdS bs s 1) true = s1S bs s from by unfold s1S; rw [hx]; rfl] at this)
  have HO := Lib.hid (show ∀ w, Tk w T R O n c bs (s1S bs s) → Calls Try.prog 50 #[.pointer (some ⟨T, 0, none⟩)] w fun e w' => e = .returned (.bool true) ∧ w = w' from fun w h => by have := ok_any T R O n c bs (s1S bs s) w h; rwa [ho] at this)
  have HU2 := Lib.hid (fun w h => tu64 T R O n c bs (s1S bs s) w h)
  have HU3 := Lib.hid (fun w h => tu64 T R O n c bs (rdS bs (s1S bs s) 8) w h)
  have hz := Lib.hid (show IntKind.i64.wrap (xS bs (s1S bs s) : Int) = i64w (xS bs (s1S bs s)) from rfl)
  have HCK := Lib.hid (show ∀ w, Calls Try.prog 26 #[.agg #[.int .i64 4, .int .i64 (i64w (xS bs (s1S bs s))), .int .u64 (xS bs (rdS bs (s1S bs s) 8) : Int), .string ⟨#[]⟩]] w fun e w' => e = .returned (.int .i64 0) ∧ Below w.heap.size w w' from fun w => ck_y (⟨4, i64w (xS bs (s1S bs s)), xS bs (rdS bs (s1S bs s) 8), ⟨#[]⟩⟩) (by simp [VV.ok, rightB]) w)
  have HF := Lib.hid (show ∀ w, Tk w T R O n c bs (rdS bs (rdS bs (s1S bs s) 8) 8) → Calls Try.prog 46 #[.pointer (some ⟨T, 0, none⟩), .bool (true)] w fun e w' => e = .returned (.tuple #[]) ∧ Tk w' T R O n c bs (nd (rdS bs (rdS bs (s1S bs s) 8) 8) true) ∧ Two w w' T R from fun w h => need_any T R O n c bs (rdS bs (rdS bs (s1S bs s) 8) 8) (true) w h)
  clear hx ho
  generalize s1S bs s = s1 at *
  generalize i64w (xS bs s1) = z at *
  generalize xS bs s1 = x at *
  generalize rdS bs s1 8 = s2 at *
  generalize xS bs s2 = y at *
  have hwr := hz.out
  have nT := h.blk.lt
  have nR := h.rdr.lt
  have hV := Blk.new w 24 #[.int .i64 0, .int .i64 0, .int .u64 0, .string ⟨#[]⟩]
  have hk := h.below (bl_al (Below.refl w.heap.size w) (.cells #[.int .i64 0, .int .i64 0, .int .u64 0, .string ⟨#[]⟩] 24))
  have tw := Two.refl_al w T R (.cells #[.int .i64 0, .int .i64 0, .int .u64 0, .string ⟨#[]⟩] 24)
  have vT : w.heap.size ≠ T := by omega
  have vR : w.heap.size ≠ R := by omega
  clear h nT nR
  have t0 : (w.alloc (.cells #[.int .i64 0, .int .i64 0, .int .u64 0, .string ⟨#[]⟩] 24)).cell? ⟨T, 0, none⟩ = some (.pointer (some ⟨R, 0, none⟩)) := hk.blk.cell 0
  go_enter Try.func38, Try.ntmps38
  go_wp2_with fail
  clear t0
  generalize (w.alloc (.cells #[.int .i64 0, .int .i64 0, .int .u64 0, .string ⟨#[]⟩] 24)) = w1 at *
  refine (HU.out _ hk).mono ?_
  rintro e w2 ⟨rfl, hkn, hg⟩
  replace hk := hkn
  clear hkn
  replace hV := hV.apart hg vR
  replace tw := tw.trans (Two.of_R hg)
  clear hg
  have t0 : w2.cell? ⟨T, 0, none⟩ = some (.pointer (some ⟨R, 0, none⟩)) := hk.blk.cell 0
  have v0 : w2.cell? ⟨w.heap.size, 0, none⟩ = some (.int .i64 0) := hV.cell 0
  have v1 : w2.cell? ⟨w.heap.size, 1, none⟩ = some (.int .i64 0) := hV.cell 1
  have v2 : w2.cell? ⟨w.heap.size, 2, none⟩ = some (.int .u64 0) := hV.cell 2
  have v3 : w2.cell? ⟨w.heap.size, 3, none⟩ = some (.string ⟨#[]⟩) := hV.cell 3
  have fz : w2.frozen? ⟨w.heap.size, 0, none⟩ = false := hV.frozen 0
  replace hk := hk.far hV (by decide) vT vR (set_grown w2 w.heap.size 0 (.int .i64 4))
  replace tw := tw.new_ (p := ⟨w.heap.size, 0, none⟩) (Nat.le_refl _) (.int .i64 4)
  replace hV : Blk (w2.setCell ⟨w.heap.size, 0, none⟩ (.int .i64 4)) w.heap.size 24 #[.int .i64 4, .int .i64 0, .int .u64 0, .string ⟨#[]⟩] := by simpa using hV.set_ 0 (.int .i64 4)
  have t9 : (w2.setCell ⟨w.heap.size, 0, none⟩ (.int .i64 4)).cell? ⟨T, 0, none⟩ = some (.pointer (some ⟨R, 0, none⟩)) := hk.blk.cell 0
  have y0 : (w2.setCell ⟨w.heap.size, 0, none⟩ (.int .i64 4)).cell? ⟨w.heap.size, 0, none⟩ = some (.int .i64 4) := hV.cell 0
  have y1 : (w2.setCell ⟨w.heap.size, 0, none⟩ (.int .i64 4)).cell? ⟨w.heap.size, 1, none⟩ = some (.int .i64 0) := hV.cell 1
  have y2 : (w2.setCell ⟨w.heap.size, 0, none⟩ (.int .i64 4)).cell? ⟨w.heap.size, 2, none⟩ = some (.int .u64 0) := hV.cell 2
  have y3 : (w2.setCell ⟨w.heap.size, 0, none⟩ (.int .i64 4)).cell? ⟨w.heap.size, 3, none⟩ = some (.string ⟨#[]⟩) := hV.cell 3
  go_wp2_with fail
  clear v0 v1 v2 v3 t9 fz y0 y1 y2 y3
  clear t0
  generalize (w2.setCell ⟨w.heap.size, 0, none⟩ (.int .i64 4)) = w3 at *
  refine (HN.out _ hk).mono ?_
  rintro e w4 ⟨rfl, hkn, tg⟩
  replace hk := hkn
  clear hkn
  replace hV := tg.blk hV vT vR
  replace tw := tw.trans tg
  clear tg
  have t0 : w4.cell? ⟨T, 0, none⟩ = some (.pointer (some ⟨R, 0, none⟩)) := hk.blk.cell 0
  go_wp2_with fail
  clear t0
  refine (HO.out _ hk).mono ?_
  rintro e w5 ⟨rfl, rfl⟩
  have t0 : w4.cell? ⟨T, 0, none⟩ = some (.pointer (some ⟨R, 0, none⟩)) := hk.blk.cell 0
  have v0 : w4.cell? ⟨w.heap.size, 0, none⟩ = some (.int .i64 4) := hV.cell 0
  have v1 : w4.cell? ⟨w.heap.size, 1, none⟩ = some (.int .i64 0) := hV.cell 1
  have v2 : w4.cell? ⟨w.heap.size, 2, none⟩ = some (.int .u64 0) := hV.cell 2
  have v3 : w4.cell? ⟨w.heap.size, 3, none⟩ = some (.string ⟨#[]⟩) := hV.cell 3
  go_wp2_with fail
  clear v0 v1 v2 v3
  clear t0
  refine (HU2.out _ hk).mono ?_
  rintro e w6 ⟨rfl, hkn, hg⟩
  replace hk := hkn
  clear hkn
  replace hV := hV.apart hg vR
  replace tw := tw.trans (Two.of_R hg)
  clear hg
  have t0 : w6.cell? ⟨T, 0, none⟩ = some (.pointer (some ⟨R, 0, none⟩)) := hk.blk.cell 0
  have v0 : w6.cell? ⟨w.heap.size, 0, none⟩ = some (.int .i64 4) := hV.cell 0
  have v1 : w6.cell? ⟨w.heap.size, 1, none⟩ = some (.int .i64 0) := hV.cell 1
  have v2 : w6.cell? ⟨w.heap.size, 2, none⟩ = some (.int .u64 0) := hV.cell 2
  have v3 : w6.cell? ⟨w.heap.size, 3, none⟩ = some (.string ⟨#[]⟩) := hV.cell 3
  have fz : w6.frozen? ⟨w.heap.size, 1, none⟩ = false := hV.frozen 1
  replace hk := hk.far hV (by decide) vT vR (set_grown w6 w.heap.size 1 (.int .i64 z))
  replace tw := tw.new_ (p := ⟨w.heap.size, 1, none⟩) (Nat.le_refl _) (.int .i64 z)
  replace hV : Blk (w6.setCell ⟨w.heap.size, 1, none⟩ (.int .i64 z)) w.heap.size 24 #[.int .i64 4, .int .i64 z, .int .u64 0, .string ⟨#[]⟩] := by simpa using hV.set_ 1 (.int .i64 z)
  have t9 : (w6.setCell ⟨w.heap.size, 1, none⟩ (.int .i64 z)).cell? ⟨T, 0, none⟩ = some (.pointer (some ⟨R, 0, none⟩)) := hk.blk.cell 0
  have y0 : (w6.setCell ⟨w.heap.size, 1, none⟩ (.int .i64 z)).cell? ⟨w.heap.size, 0, none⟩ = some (.int .i64 4) := hV.cell 0
  have y1 : (w6.setCell ⟨w.heap.size, 1, none⟩ (.int .i64 z)).cell? ⟨w.heap.size, 1, none⟩ = some (.int .i64 z) := hV.cell 1
  have y2 : (w6.setCell ⟨w.heap.size, 1, none⟩ (.int .i64 z)).cell? ⟨w.heap.size, 2, none⟩ = some (.int .u64 0) := hV.cell 2
  have y3 : (w6.setCell ⟨w.heap.size, 1, none⟩ (.int .i64 z)).cell? ⟨w.heap.size, 3, none⟩ = some (.string ⟨#[]⟩) := hV.cell 3
  go_wp2_with fail
  clear v0 v1 v2 v3 t9 fz y0 y1 y2 y3
  clear t0
  generalize (w6.setCell ⟨w.heap.size, 1, none⟩ (.int .i64 z)) = w7 at *
  refine (HU3.out _ hk).mono ?_
  rintro e w8 ⟨rfl, hkn, hg⟩
  replace hk := hkn
  clear hkn
  replace hV := hV.apart hg vR
  replace tw := tw.trans (Two.of_R hg)
  clear hg
  have t0 : w8.cell? ⟨T, 0, none⟩ = some (.pointer (some ⟨R, 0, none⟩)) := hk.blk.cell 0
  have v0 : w8.cell? ⟨w.heap.size, 0, none⟩ = some (.int .i64 4) := hV.cell 0
  have v1 : w8.cell? ⟨w.heap.size, 1, none⟩ = some (.int .i64 z) := hV.cell 1
  have v2 : w8.cell? ⟨w.heap.size, 2, none⟩ = some (.int .u64 0) := hV.cell 2
  have v3 : w8.cell? ⟨w.heap.size, 3, none⟩ = some (.string ⟨#[]⟩) := hV.cell 3
  have fz : w8.frozen? ⟨w.heap.size, 2, none⟩ = false := hV.frozen 2
  replace hk := hk.far hV (by decide) vT vR (set_grown w8 w.heap.size 2 (.int .u64 (y : Int)))
  replace tw := tw.new_ (p := ⟨w.heap.size, 2, none⟩) (Nat.le_refl _) (.int .u64 (y : Int))
  replace hV : Blk (w8.setCell ⟨w.heap.size, 2, none⟩ (.int .u64 (y : Int))) w.heap.size 24 #[.int .i64 4, .int .i64 z, .int .u64 (y : Int), .string ⟨#[]⟩] := by simpa using hV.set_ 2 (.int .u64 (y : Int))
  have t9 : (w8.setCell ⟨w.heap.size, 2, none⟩ (.int .u64 (y : Int))).cell? ⟨T, 0, none⟩ = some (.pointer (some ⟨R, 0, none⟩)) := hk.blk.cell 0
  have y0 : (w8.setCell ⟨w.heap.size, 2, none⟩ (.int .u64 (y : Int))).cell? ⟨w.heap.size, 0, none⟩ = some (.int .i64 4) := hV.cell 0
  have y1 : (w8.setCell ⟨w.heap.size, 2, none⟩ (.int .u64 (y : Int))).cell? ⟨w.heap.size, 1, none⟩ = some (.int .i64 z) := hV.cell 1
  have y2 : (w8.setCell ⟨w.heap.size, 2, none⟩ (.int .u64 (y : Int))).cell? ⟨w.heap.size, 2, none⟩ = some (.int .u64 (y : Int)) := hV.cell 2
  have y3 : (w8.setCell ⟨w.heap.size, 2, none⟩ (.int .u64 (y : Int))).cell? ⟨w.heap.size, 3, none⟩ = some (.string ⟨#[]⟩) := hV.cell 3
  go_wp2_with fail
  clear v0 v1 v2 v3 t9 fz y0 y1 y2 y3
  clear t0
  generalize (w8.setCell ⟨w.heap.size, 2, none⟩ (.int .u64 (y : Int))) = w9 at *
  refine (HCK.out _).mono ?_
  rintro e w10 ⟨rfl, q⟩
  replace hV := hV.ca q
  replace hk := hk.below q
  replace tw := tw.trans (Two.of_below q)
  clear q
  have t0 : w10.cell? ⟨T, 0, none⟩ = some (.pointer (some ⟨R, 0, none⟩)) := hk.blk.cell 0
  go_wp2_with fail
  clear t0
  refine (HF.out _ hk).mono ?_
  rintro e w11 ⟨rfl, hkn, tg⟩
  replace hk := hkn
  clear hkn
  replace hV := tg.blk hV vT vR
  replace tw := tw.trans tg
  clear tg
  have t0 : w11.cell? ⟨T, 0, none⟩ = some (.pointer (some ⟨R, 0, none⟩)) := hk.blk.cell 0
  have v0 : w11.cell? ⟨w.heap.size, 0, none⟩ = some (.int .i64 4) := hV.cell 0
  have v1 : w11.cell? ⟨w.heap.size, 1, none⟩ = some (.int .i64 z) := hV.cell 1
  have v2 : w11.cell? ⟨w.heap.size, 2, none⟩ = some (.int .u64 (y : Int)) := hV.cell 2
  have v3 : w11.cell? ⟨w.heap.size, 3, none⟩ = some (.string ⟨#[]⟩) := hV.cell 3
  have KR := Lib.hid hV
  have HK := Lib.hid hk
  have TWH := Lib.hid tw
  have HS := Lib.hid (fun w2 (g2 : w11.grownBy w2 (some w.heap.size)) => hk.far hV (by decide) vT vR g2)
  clear hV hk tw
  go_wp2_with (refine wpList_store_blk rfl 24 (.tmp 2) (.tmp 82) rfl w.heap.size 24 #[.int .i64 4, .int .i64 z, .int .u64 (y : Int), .string ⟨#[]⟩] #[.int .i64 4, .int .i64 z, .int .u64 (y : Int), .string ⟨#[]⟩] rfl rfl KR.out rfl valI (one4 _ _ _ _) ?_; intro wz hZ gz)
  exact bodyPost_ret (res1 Try.results38 rfl hZ Try.underlying24 rfl valI) rfl ⟨rfl, HS.out _ gz, TWH.out.row (Nat.le_refl _) gz⟩
set_option maxRecDepth 100000 in
set_option maxHeartbeats 4000000 in
theorem value_3y (T R : Nat) (O : Option Addr) (n c : Nat) (bs : List UInt8) (s : St) (w : World) (h : Tk w T R O n c bs s) (hx : kS bs s = 3) (ho : okS (s1S bs s) = true) (ht : okS (tS bs (s1S bs s)) = true) (hv : VV.ok ⟨3, 0, 0, bS bs (tS bs (s1S bs s)) (kS bs (s1S bs s))⟩ = true) :
    Calls Try.prog 38 #[.pointer (some ⟨T, 0, none⟩)] w (retV w T R O n c bs ((⟨3, 0, 0, bS bs (tS bs (s1S bs s)) (kS bs (s1S bs s))⟩, nd (rdS bs (tS bs (s1S bs s)) (kS bs (s1S bs s) : Int)) true))) := by
  have HU := Lib.hid (show ∀ w, Tk w T R O n c bs (s) → Calls Try.prog 48 #[.pointer (some ⟨R, 0, none⟩)] w fun e w' => e = .returned (.int .u8 3) ∧ Tk w' T R O n c bs (rdS bs (s) 1) ∧ w.grownBy w' (some R) from fun w h => by have := tu8 T R O n c bs (s) w h; rwa [hx] at this)
  have HN := Lib.hid (show ∀ w, Tk w T R O n c bs (rdS bs s 1) → Calls Try.prog 46 #[.pointer (some ⟨T, 0, none⟩), .bool true] w fun e w' => e = .returned (.tuple #[]) ∧ Tk w' T R O n c bs (s1S bs s) ∧ Two w w' T R from fun w h => by have := need_any T R O n c bs (rdS bs s 1) true w h; rwa [show nd (rdS bs s 1) true = s1S bs s from by unfold s1S; rw [hx]; rfl] at this)
  have HO := Lib.hid (show ∀ w, Tk w T R O n c bs (s1S bs s) → Calls Try.prog 50 #[.pointer (some ⟨T, 0, none⟩)] w fun e w' => e = .returned (.bool true) ∧ w = w' from fun w h => by have := ok_any T R O n c bs (s1S bs s) w h; rwa [ho] at this)
  have HU2 := Lib.hid (fun w h => tu8 T R O n c bs (s1S bs s) w h)
  have hm := kS_lt bs (s1S bs s)
  have HN2 := Lib.hid (show ∀ w, Tk w T R O n c bs (rdS bs (s1S bs s) 1) → Calls Try.prog 46 #[.pointer (some ⟨T, 0, none⟩), .bool (decide ((kS bs (s1S bs s) : Int) ≤ 40))] w fun e w' => e = .returned (.tuple #[]) ∧ Tk w' T R O n c bs (tS bs (s1S bs s)) ∧ Two w w' T R from fun w h => need_any T R O n c bs (rdS bs (s1S bs s) 1) (decide ((kS bs (s1S bs s) : Int) ≤ 40)) w h)
  have HO2 := Lib.hid (show ∀ w, Tk w T R O n c bs (tS bs (s1S bs s)) → Calls Try.prog 50 #[.pointer (some ⟨T, 0, none⟩)] w fun e w' => e = .returned (.bool true) ∧ w = w' from fun w h => by have := ok_any T R O n c bs (tS bs (s1S bs s)) w h; rwa [ht] at this)
  have HRW := Lib.hid (fun w h => traw T R O n c bs (tS bs (s1S bs s)) w (kS bs (s1S bs s)) (by omega) h)
  have HB := Lib.hid (show bS bs (tS bs (s1S bs s)) (kS bs (s1S bs s)) = ⟨(rdO bs (tS bs (s1S bs s)).p (tS bs (s1S bs s)).why (kS bs (s1S bs s) : Int)).toArray⟩ from rfl)
  have HCK := Lib.hid (show ∀ w, Calls Try.prog 26 #[.agg #[.int .i64 3, .int .i64 0, .int .u64 0, .string (bS bs (tS bs (s1S bs s)) (kS bs (s1S bs s)))]] w fun e w' => e = .returned (.int .i64 0) ∧ Below w.heap.size w w' from fun w => ck_y (⟨3, 0, 0, bS bs (tS bs (s1S bs s)) (kS bs (s1S bs s))⟩) (hv) w)
  have HF := Lib.hid (show ∀ w, Tk w T R O n c bs (rdS bs (tS bs (s1S bs s)) (kS bs (s1S bs s) : Int)) → Calls Try.prog 46 #[.pointer (some ⟨T, 0, none⟩), .bool (true)] w fun e w' => e = .returned (.tuple #[]) ∧ Tk w' T R O n c bs (nd (rdS bs (tS bs (s1S bs s)) (kS bs (s1S bs s) : Int)) true) ∧ Two w w' T R from fun w h => need_any T R O n c bs (rdS bs (tS bs (s1S bs s)) (kS bs (s1S bs s) : Int)) (true) w h)
  clear hx ho ht hv
  generalize bS bs (tS bs (s1S bs s)) (kS bs (s1S bs s)) = tx at *
  generalize tS bs (s1S bs s) = s2 at *
  generalize s1S bs s = s1 at *
  generalize kS bs s1 = m at *
  generalize rdO bs s2.p s2.why (m : Int) = rb at *
  have hwr : IntKind.i64.wrap (m : Int) = (m : Int) := by rw [IntKind.wrap_i64]; omega
  have nT := h.blk.lt
  have nR := h.rdr.lt
  have hV := Blk.new w 24 #[.int .i64 0, .int .i64 0, .int .u64 0, .string ⟨#[]⟩]
  have hk := h.below (bl_al (Below.refl w.heap.size w) (.cells #[.int .i64 0, .int .i64 0, .int .u64 0, .string ⟨#[]⟩] 24))
  have tw := Two.refl_al w T R (.cells #[.int .i64 0, .int .i64 0, .int .u64 0, .string ⟨#[]⟩] 24)
  have vT : w.heap.size ≠ T := by omega
  have vR : w.heap.size ≠ R := by omega
  clear h nT nR
  have t0 : (w.alloc (.cells #[.int .i64 0, .int .i64 0, .int .u64 0, .string ⟨#[]⟩] 24)).cell? ⟨T, 0, none⟩ = some (.pointer (some ⟨R, 0, none⟩)) := hk.blk.cell 0
  go_enter Try.func38, Try.ntmps38
  go_wp2_with fail
  clear t0
  generalize (w.alloc (.cells #[.int .i64 0, .int .i64 0, .int .u64 0, .string ⟨#[]⟩] 24)) = w1 at *
  refine (HU.out _ hk).mono ?_
  rintro e w2 ⟨rfl, hkn, hg⟩
  replace hk := hkn
  clear hkn
  replace hV := hV.apart hg vR
  replace tw := tw.trans (Two.of_R hg)
  clear hg
  have t0 : w2.cell? ⟨T, 0, none⟩ = some (.pointer (some ⟨R, 0, none⟩)) := hk.blk.cell 0
  have v0 : w2.cell? ⟨w.heap.size, 0, none⟩ = some (.int .i64 0) := hV.cell 0
  have v1 : w2.cell? ⟨w.heap.size, 1, none⟩ = some (.int .i64 0) := hV.cell 1
  have v2 : w2.cell? ⟨w.heap.size, 2, none⟩ = some (.int .u64 0) := hV.cell 2
  have v3 : w2.cell? ⟨w.heap.size, 3, none⟩ = some (.string ⟨#[]⟩) := hV.cell 3
  have fz : w2.frozen? ⟨w.heap.size, 0, none⟩ = false := hV.frozen 0
  replace hk := hk.far hV (by decide) vT vR (set_grown w2 w.heap.size 0 (.int .i64 3))
  replace tw := tw.new_ (p := ⟨w.heap.size, 0, none⟩) (Nat.le_refl _) (.int .i64 3)
  replace hV : Blk (w2.setCell ⟨w.heap.size, 0, none⟩ (.int .i64 3)) w.heap.size 24 #[.int .i64 3, .int .i64 0, .int .u64 0, .string ⟨#[]⟩] := by simpa using hV.set_ 0 (.int .i64 3)
  have t9 : (w2.setCell ⟨w.heap.size, 0, none⟩ (.int .i64 3)).cell? ⟨T, 0, none⟩ = some (.pointer (some ⟨R, 0, none⟩)) := hk.blk.cell 0
  have y0 : (w2.setCell ⟨w.heap.size, 0, none⟩ (.int .i64 3)).cell? ⟨w.heap.size, 0, none⟩ = some (.int .i64 3) := hV.cell 0
  have y1 : (w2.setCell ⟨w.heap.size, 0, none⟩ (.int .i64 3)).cell? ⟨w.heap.size, 1, none⟩ = some (.int .i64 0) := hV.cell 1
  have y2 : (w2.setCell ⟨w.heap.size, 0, none⟩ (.int .i64 3)).cell? ⟨w.heap.size, 2, none⟩ = some (.int .u64 0) := hV.cell 2
  have y3 : (w2.setCell ⟨w.heap.size, 0, none⟩ (.int .i64 3)).cell? ⟨w.heap.size, 3, none⟩ = some (.string ⟨#[]⟩) := hV.cell 3
  go_wp2_with fail
  clear v0 v1 v2 v3 t9 fz y0 y1 y2 y3
  clear t0
  generalize (w2.setCell ⟨w.heap.size, 0, none⟩ (.int .i64 3)) = w3 at *
  refine (HN.out _ hk).mono ?_
  rintro e w4 ⟨rfl, hkn, tg⟩
  replace hk := hkn
  clear hkn
  replace hV := tg.blk hV vT vR
  replace tw := tw.trans tg
  clear tg
  have t0 : w4.cell? ⟨T, 0, none⟩ = some (.pointer (some ⟨R, 0, none⟩)) := hk.blk.cell 0
  go_wp2_with fail
  clear t0
  refine (HO.out _ hk).mono ?_
  rintro e w5 ⟨rfl, rfl⟩
  have t0 : w4.cell? ⟨T, 0, none⟩ = some (.pointer (some ⟨R, 0, none⟩)) := hk.blk.cell 0
  have v0 : w4.cell? ⟨w.heap.size, 0, none⟩ = some (.int .i64 3) := hV.cell 0
  have v1 : w4.cell? ⟨w.heap.size, 1, none⟩ = some (.int .i64 0) := hV.cell 1
  have v2 : w4.cell? ⟨w.heap.size, 2, none⟩ = some (.int .u64 0) := hV.cell 2
  have v3 : w4.cell? ⟨w.heap.size, 3, none⟩ = some (.string ⟨#[]⟩) := hV.cell 3
  go_wp2_with fail
  clear v0 v1 v2 v3
  clear t0
  refine (HU2.out _ hk).mono ?_
  rintro e w6 ⟨rfl, hkn, hg⟩
  replace hk := hkn
  clear hkn
  replace hV := hV.apart hg vR
  replace tw := tw.trans (Two.of_R hg)
  clear hg
  have t0 : w6.cell? ⟨T, 0, none⟩ = some (.pointer (some ⟨R, 0, none⟩)) := hk.blk.cell 0
  go_wp2_with fail
  clear t0
  refine (HN2.out _ hk).mono ?_
  rintro e w7 ⟨rfl, hkn, tg⟩
  replace hk := hkn
  clear hkn
  replace hV := tg.blk hV vT vR
  replace tw := tw.trans tg
  clear tg
  have t0 : w7.cell? ⟨T, 0, none⟩ = some (.pointer (some ⟨R, 0, none⟩)) := hk.blk.cell 0
  go_wp2_with fail
  clear t0
  refine (HO2.out _ hk).mono ?_
  rintro e w8 ⟨rfl, rfl⟩
  have t0 : w7.cell? ⟨T, 0, none⟩ = some (.pointer (some ⟨R, 0, none⟩)) := hk.blk.cell 0
  go_wp2_with fail
  clear t0
  refine (HRW.out _ hk).mono ?_
  rintro e w9 ⟨Ar, cr, rfl, hrb, hkn, hg⟩
  replace hk := hkn
  clear hkn
  replace hV := hV.apart hg vR
  replace tw := tw.trans (Two.of_R hg)
  clear hg
  have hcv : (convert 29 9 (.slice Ar rb.length cr)).run Try.prog w9 = .ok (.string tx) w9 := by rw [HB.out]; exact hrb.str cr
  have t0 : w9.cell? ⟨T, 0, none⟩ = some (.pointer (some ⟨R, 0, none⟩)) := hk.blk.cell 0
  have v0 : w9.cell? ⟨w.heap.size, 0, none⟩ = some (.int .i64 3) := hV.cell 0
  have v1 : w9.cell? ⟨w.heap.size, 1, none⟩ = some (.int .i64 0) := hV.cell 1
  have v2 : w9.cell? ⟨w.heap.size, 2, none⟩ = some (.int .u64 0) := hV.cell 2
  have v3 : w9.cell? ⟨w.heap.size, 3, none⟩ = some (.string ⟨#[]⟩) := hV.cell 3
  have fz : w9.frozen? ⟨w.heap.size, 3, none⟩ = false := hV.frozen 3
  replace hk := hk.far hV (by decide) vT vR (set_grown w9 w.heap.size 3 (.string tx))
  replace tw := tw.new_ (p := ⟨w.heap.size, 3, none⟩) (Nat.le_refl _) (.string tx)
  replace hV : Blk (w9.setCell ⟨w.heap.size, 3, none⟩ (.string tx)) w.heap.size 24 #[.int .i64 3, .int .i64 0, .int .u64 0, .string tx] := by simpa using hV.set_ 3 (.string tx)
  have t9 : (w9.setCell ⟨w.heap.size, 3, none⟩ (.string tx)).cell? ⟨T, 0, none⟩ = some (.pointer (some ⟨R, 0, none⟩)) := hk.blk.cell 0
  have y0 : (w9.setCell ⟨w.heap.size, 3, none⟩ (.string tx)).cell? ⟨w.heap.size, 0, none⟩ = some (.int .i64 3) := hV.cell 0
  have y1 : (w9.setCell ⟨w.heap.size, 3, none⟩ (.string tx)).cell? ⟨w.heap.size, 1, none⟩ = some (.int .i64 0) := hV.cell 1
  have y2 : (w9.setCell ⟨w.heap.size, 3, none⟩ (.string tx)).cell? ⟨w.heap.size, 2, none⟩ = some (.int .u64 0) := hV.cell 2
  have y3 : (w9.setCell ⟨w.heap.size, 3, none⟩ (.string tx)).cell? ⟨w.heap.size, 3, none⟩ = some (.string tx) := hV.cell 3
  go_wp2_with fail
  clear v0 v1 v2 v3 t9 fz y0 y1 y2 y3
  clear t0
  generalize (w9.setCell ⟨w.heap.size, 3, none⟩ (.string tx)) = w10 at *
  refine (HCK.out _).mono ?_
  rintro e w11 ⟨rfl, q⟩
  replace hV := hV.ca q
  replace hk := hk.below q
  replace tw := tw.trans (Two.of_below q)
  clear q
  have t0 : w11.cell? ⟨T, 0, none⟩ = some (.pointer (some ⟨R, 0, none⟩)) := hk.blk.cell 0
  go_wp2_with fail
  clear t0
  refine (HF.out _ hk).mono ?_
  rintro e w12 ⟨rfl, hkn, tg⟩
  replace hk := hkn
  clear hkn
  replace hV := tg.blk hV vT vR
  replace tw := tw.trans tg
  clear tg
  have t0 : w12.cell? ⟨T, 0, none⟩ = some (.pointer (some ⟨R, 0, none⟩)) := hk.blk.cell 0
  have v0 : w12.cell? ⟨w.heap.size, 0, none⟩ = some (.int .i64 3) := hV.cell 0
  have v1 : w12.cell? ⟨w.heap.size, 1, none⟩ = some (.int .i64 0) := hV.cell 1
  have v2 : w12.cell? ⟨w.heap.size, 2, none⟩ = some (.int .u64 0) := hV.cell 2
  have v3 : w12.cell? ⟨w.heap.size, 3, none⟩ = some (.string tx) := hV.cell 3
  have KR := Lib.hid hV
  have HK := Lib.hid hk
  have TWH := Lib.hid tw
  have HS := Lib.hid (fun w2 (g2 : w12.grownBy w2 (some w.heap.size)) => hk.far hV (by decide) vT vR g2)
  clear hV hk tw
  go_wp2_with (refine wpList_store_blk rfl 24 (.tmp 2) (.tmp 82) rfl w.heap.size 24 #[.int .i64 3, .int .i64 0, .int .u64 0, .string tx] #[.int .i64 3, .int .i64 0, .int .u64 0, .string tx] rfl rfl KR.out rfl valI (one4 _ _ _ _) ?_; intro wz hZ gz)
  exact bodyPost_ret (res1 Try.results38 rfl hZ Try.underlying24 rfl valI) rfl ⟨rfl, HS.out _ gz, TWH.out.row (Nat.le_refl _) gz⟩
set_option maxRecDepth 100000 in
set_option maxHeartbeats 4000000 in
theorem value_3n (T R : Nat) (O : Option Addr) (n c : Nat) (bs : List UInt8) (s : St) (w : World) (h : Tk w T R O n c bs s) (hx : kS bs s = 3) (ho : okS (s1S bs s) = true) (ht : okS (tS bs (s1S bs s)) = false) :
    Calls Try.prog 38 #[.pointer (some ⟨T, 0, none⟩)] w (retV w T R O n c bs ((⟨3, 0, 0, ⟨#[]⟩⟩, nd (tS bs (s1S bs s)) true))) := by
  have HU := Lib.hid (show ∀ w, Tk w T R O n c bs (s) → Calls Try.prog 48 #[.pointer (some ⟨R, 0, none⟩)] w fun e w' => e = .returned (.int .u8 3) ∧ Tk w' T R O n c bs (rdS bs (s) 1) ∧ w.grownBy w' (some R) from fun w h => by have := tu8 T R O n c bs (s) w h; rwa [hx] at this)
  have HN := Lib.hid (show ∀ w, Tk w T R O n c bs (rdS bs s 1) → Calls Try.prog 46 #[.pointer (some ⟨T, 0, none⟩), .bool true] w fun e w' => e = .returned (.tuple #[]) ∧ Tk w' T R O n c bs (s1S bs s) ∧ Two w w' T R from fun w h => by have := need_any T R O n c bs (rdS bs s 1) true w h; rwa [show nd (rdS bs s 1) true = s1S bs s from by unfold s1S; rw [hx]; rfl] at this)
  have HO := Lib.hid (show ∀ w, Tk w T R O n c bs (s1S bs s) → Calls Try.prog 50 #[.pointer (some ⟨T, 0, none⟩)] w fun e w' => e = .returned (.bool true) ∧ w = w' from fun w h => by have := ok_any T R O n c bs (s1S bs s) w h; rwa [ho] at this)
  have HU2 := Lib.hid (fun w h => tu8 T R O n c bs (s1S bs s) w h)
  have hm := kS_lt bs (s1S bs s)
  have HN2 := Lib.hid (show ∀ w, Tk w T R O n c bs (rdS bs (s1S bs s) 1) → Calls Try.prog 46 #[.pointer (some ⟨T, 0, none⟩), .bool (decide ((kS bs (s1S bs s) : Int) ≤ 40))] w fun e w' => e = .returned (.tuple #[]) ∧ Tk w' T R O n c bs (tS bs (s1S bs s)) ∧ Two w w' T R from fun w h => need_any T R O n c bs (rdS bs (s1S bs s) 1) (decide ((kS bs (s1S bs s) : Int) ≤ 40)) w h)
  have HO2 := Lib.hid (show ∀ w, Tk w T R O n c bs (tS bs (s1S bs s)) → Calls Try.prog 50 #[.pointer (some ⟨T, 0, none⟩)] w fun e w' => e = .returned (.bool false) ∧ w = w' from fun w h => by have := ok_any T R O n c bs (tS bs (s1S bs s)) w h; rwa [ht] at this)
  have HCK := Lib.hid (show ∀ w, Calls Try.prog 26 #[.agg #[.int .i64 3, .int .i64 0, .int .u64 0, .string ⟨#[]⟩]] w fun e w' => e = .returned (.int .i64 0) ∧ Below w.heap.size w w' from fun w => ck_y (⟨3, 0, 0, ⟨#[]⟩⟩) (by decide +kernel) w)
  have HF := Lib.hid (show ∀ w, Tk w T R O n c bs (tS bs (s1S bs s)) → Calls Try.prog 46 #[.pointer (some ⟨T, 0, none⟩), .bool (true)] w fun e w' => e = .returned (.tuple #[]) ∧ Tk w' T R O n c bs (nd (tS bs (s1S bs s)) true) ∧ Two w w' T R from fun w h => need_any T R O n c bs (tS bs (s1S bs s)) (true) w h)
  clear hx ho ht
  generalize tS bs (s1S bs s) = s2 at *
  generalize s1S bs s = s1 at *
  generalize kS bs s1 = m at *
  have hwr : IntKind.i64.wrap (m : Int) = (m : Int) := by rw [IntKind.wrap_i64]; omega
  have nT := h.blk.lt
  have nR := h.rdr.lt
  have hV := Blk.new w 24 #[.int .i64 0, .int .i64 0, .int .u64 0, .string ⟨#[]⟩]
  have hk := h.below (bl_al (Below.refl w.heap.size w) (.cells #[.int .i64 0, .int .i64 0, .int .u64 0, .string ⟨#[]⟩] 24))
  have tw := Two.refl_al w T R (.cells #[.int .i64 0, .int .i64 0, .int .u64 0, .string ⟨#[]⟩] 24)
  have vT : w.heap.size ≠ T := by omega
  have vR : w.heap.size ≠ R := by omega
  clear h nT nR
  have t0 : (w.alloc (.cells #[.int .i64 0, .int .i64 0, .int .u64 0, .string ⟨#[]⟩] 24)).cell? ⟨T, 0, none⟩ = some (.pointer (some ⟨R, 0, none⟩)) := hk.blk.cell 0
  go_enter Try.func38, Try.ntmps38
  go_wp2_with fail
  clear t0
  generalize (w.alloc (.cells #[.int .i64 0, .int .i64 0, .int .u64 0, .string ⟨#[]⟩] 24)) = w1 at *
  refine (HU.out _ hk).mono ?_
  rintro e w2 ⟨rfl, hkn, hg⟩
  replace hk := hkn
  clear hkn
  replace hV := hV.apart hg vR
  replace tw := tw.trans (Two.of_R hg)
  clear hg
  have t0 : w2.cell? ⟨T, 0, none⟩ = some (.pointer (some ⟨R, 0, none⟩)) := hk.blk.cell 0
  have v0 : w2.cell? ⟨w.heap.size, 0, none⟩ = some (.int .i64 0) := hV.cell 0
  have v1 : w2.cell? ⟨w.heap.size, 1, none⟩ = some (.int .i64 0) := hV.cell 1
  have v2 : w2.cell? ⟨w.heap.size, 2, none⟩ = some (.int .u64 0) := hV.cell 2
  have v3 : w2.cell? ⟨w.heap.size, 3, none⟩ = some (.string ⟨#[]⟩) := hV.cell 3
  have fz : w2.frozen? ⟨w.heap.size, 0, none⟩ = false := hV.frozen 0
  replace hk := hk.far hV (by decide) vT vR (set_grown w2 w.heap.size 0 (.int .i64 3))
  replace tw := tw.new_ (p := ⟨w.heap.size, 0, none⟩) (Nat.le_refl _) (.int .i64 3)
  replace hV : Blk (w2.setCell ⟨w.heap.size, 0, none⟩ (.int .i64 3)) w.heap.size 24 #[.int .i64 3, .int .i64 0, .int .u64 0, .string ⟨#[]⟩] := by simpa using hV.set_ 0 (.int .i64 3)
  have t9 : (w2.setCell ⟨w.heap.size, 0, none⟩ (.int .i64 3)).cell? ⟨T, 0, none⟩ = some (.pointer (some ⟨R, 0, none⟩)) := hk.blk.cell 0
  have y0 : (w2.setCell ⟨w.heap.size, 0, none⟩ (.int .i64 3)).cell? ⟨w.heap.size, 0, none⟩ = some (.int .i64 3) := hV.cell 0
  have y1 : (w2.setCell ⟨w.heap.size, 0, none⟩ (.int .i64 3)).cell? ⟨w.heap.size, 1, none⟩ = some (.int .i64 0) := hV.cell 1
  have y2 : (w2.setCell ⟨w.heap.size, 0, none⟩ (.int .i64 3)).cell? ⟨w.heap.size, 2, none⟩ = some (.int .u64 0) := hV.cell 2
  have y3 : (w2.setCell ⟨w.heap.size, 0, none⟩ (.int .i64 3)).cell? ⟨w.heap.size, 3, none⟩ = some (.string ⟨#[]⟩) := hV.cell 3
  go_wp2_with fail
  clear v0 v1 v2 v3 t9 fz y0 y1 y2 y3
  clear t0
  generalize (w2.setCell ⟨w.heap.size, 0, none⟩ (.int .i64 3)) = w3 at *
  refine (HN.out _ hk).mono ?_
  rintro e w4 ⟨rfl, hkn, tg⟩
  replace hk := hkn
  clear hkn
  replace hV := tg.blk hV vT vR
  replace tw := tw.trans tg
  clear tg
  have t0 : w4.cell? ⟨T, 0, none⟩ = some (.pointer (some ⟨R, 0, none⟩)) := hk.blk.cell 0
  go_wp2_with fail
  clear t0
  refine (HO.out _ hk).mono ?_
  rintro e w5 ⟨rfl, rfl⟩
  have t0 : w4.cell? ⟨T, 0, none⟩ = some (.pointer (some ⟨R, 0, none⟩)) := hk.blk.cell 0
  have v0 : w4.cell? ⟨w.heap.size, 0, none⟩ = some (.int .i64 3) := hV.cell 0
  have v1 : w4.cell? ⟨w.heap.size, 1, none⟩ = some (.int .i64 0) := hV.cell 1
  have v2 : w4.cell? ⟨w.heap.size, 2, none⟩ = some (.int .u64 0) := hV.cell 2
  have v3 : w4.cell? ⟨w.heap.size, 3, none⟩ = some (.string ⟨#[]⟩) := hV.cell 3
  go_wp2_with fail
  clear v0 v1 v2 v3
  clear t0
  refine (HU2.out _ hk).mono ?_
  rintro e w6 ⟨rfl, hkn, hg⟩
  replace hk := hkn
  clear hkn
  replace hV := hV.apart hg vR
  replace tw := tw.trans (Two.of_R hg)
  clear hg
  have t0 : w6.cell? ⟨T, 0, none⟩ = some (.pointer (some ⟨R, 0, none⟩)) := hk.blk.cell 0
  go_wp2_with fail
  clear t0
  refine (HN2.out _ hk).mono ?_
  rintro e w7 ⟨rfl, hkn, tg⟩
  replace hk := hkn
  clear hkn
  replace hV := tg.blk hV vT vR
  replace tw := tw.trans tg
  clear tg
  have t0 : w7.cell? ⟨T, 0, none⟩ = some (.pointer (some ⟨R, 0, none⟩)) := hk.blk.cell 0
  go_wp2_with fail
  clear t0
  refine (HO2.out _ hk).mono ?_
  rintro e w8 ⟨rfl, rfl⟩
  have t0 : w7.cell? ⟨T, 0, none⟩ = some (.pointer (some ⟨R, 0, none⟩)) := hk.blk.cell 0
  have v0 : w7.cell? ⟨w.heap.size, 0, none⟩ = some (.int .i64 3) := hV.cell 0
  have v1 : w7.cell? ⟨w.heap.size, 1, none⟩ = some (.int .i64 0) := hV.cell 1
  have v2 : w7.cell? ⟨w.heap.size, 2, none⟩ = some (.int .u64 0) := hV.cell 2
  have v3 : w7.cell? ⟨w.heap.size, 3, none⟩ = some (.string ⟨#[]⟩) := hV.cell 3
  go_wp2_with fail
  clear v0 v1 v2 v3
  clear t0
  refine (HCK.out _).mono ?_
  rintro e w9 ⟨rfl, q⟩
  replace hV := hV.ca q
  replace hk := hk.below q
  replace tw := tw.trans (Two.of_below q)
  clear q
  have t0 : w9.cell? ⟨T, 0, none⟩ = some (.pointer (some ⟨R, 0, none⟩)) := hk.blk.cell 0
  go_wp2_with fail
  clear t0
  refine (HF.out _ hk).mono ?_
  rintro e w10 ⟨rfl, hkn, tg⟩
  replace hk := hkn
  clear hkn
  replace hV := tg.blk hV vT vR
  replace tw := tw.trans tg
  clear tg
  have t0 : w10.cell? ⟨T, 0, none⟩ = some (.pointer (some ⟨R, 0, none⟩)) := hk.blk.cell 0
  have v0 : w10.cell? ⟨w.heap.size, 0, none⟩ = some (.int .i64 3) := hV.cell 0
  have v1 : w10.cell? ⟨w.heap.size, 1, none⟩ = some (.int .i64 0) := hV.cell 1
  have v2 : w10.cell? ⟨w.heap.size, 2, none⟩ = some (.int .u64 0) := hV.cell 2
  have v3 : w10.cell? ⟨w.heap.size, 3, none⟩ = some (.string ⟨#[]⟩) := hV.cell 3
  have KR := Lib.hid hV
  have HK := Lib.hid hk
  have TWH := Lib.hid tw
  have HS := Lib.hid (fun w2 (g2 : w10.grownBy w2 (some w.heap.size)) => hk.far hV (by decide) vT vR g2)
  clear hV hk tw
  go_wp2_with (refine wpList_store_blk rfl 24 (.tmp 2) (.tmp 82) rfl w.heap.size 24 #[.int .i64 3, .int .i64 0, .int .u64 0, .string ⟨#[]⟩] #[.int .i64 3, .int .i64 0, .int .u64 0, .string ⟨#[]⟩] rfl rfl KR.out rfl valI (one4 _ _ _ _) ?_; intro wz hZ gz)
  exact bodyPost_ret (res1 Try.results38 rfl hZ Try.underlying24 rfl valI) rfl ⟨rfl, HS.out _ gz, TWH.out.row (Nat.le_refl _) gz⟩
theorem nd_true (s : St) : nd s true = s := by simp [nd]
theorem okS_le {s : St} {k lim : Nat} (h : okS (nd s (decide ((k : Int) ≤ (lim : Int)))) = true) : k ≤ lim := by
  unfold okS nd at h
  simp at h
  rcases h.1.2 with h2 | h2
  · exact absurd h.2 h2
  · exact h2
theorem rdO_le (bs : List UInt8) (p : Nat) (why : Int) (k : Nat) : (rdO bs p why (k : Int)).length ≤ k := rdO_len bs p why k
theorem value_any (T R : Nat) (O : Option Addr) (n c : Nat) (bs : List UInt8) (s : St) (w : World) (h : Tk w T R O n c bs s) :
    Calls Try.prog 38 #[.pointer (some ⟨T, 0, none⟩)] w (retV w T R O n c bs (valS bs s)) := by
  have g : ∀ r, valS bs s = r → Calls Try.prog 38 #[.pointer (some ⟨T, 0, none⟩)] w (retV w T R O n c bs r) → Calls Try.prog 38 #[.pointer (some ⟨T, 0, none⟩)] w (retV w T R O n c bs (valS bs s)) := fun r e h => by rw [e]; exact h
  cases ho : okS (s1S bs s)
  · exact g _ (by unfold valS; rw [if_pos ho]) (value_e T R O n c bs s w h ho)
  · have hle : kS bs s ≤ 4 := okS_le (lim := 4) ho
    have hne : ¬ okS (s1S bs s) = false := by rw [ho]; simp
    rcases (show kS bs s = 0 ∨ kS bs s = 1 ∨ kS bs s = 2 ∨ kS bs s = 3 ∨ kS bs s = 4 from by omega) with hx | hx | hx | hx | hx
    · exact g _ (by unfold valS; rw [if_neg hne, hx, if_neg (by omega), if_neg (by omega), if_neg (by omega), if_neg (by omega)]; unfold finS; rw [show VV.ok ⟨((0 : Nat) : Int), 0, 0, ⟨#[]⟩⟩ = true from by decide +kernel]; rfl) (value_0 T R O n c bs s w h hx ho)
    · cases hv : VV.ok ⟨1, kS bs (s1S bs s), 0, ⟨#[]⟩⟩
      · exact g _ (by unfold valS; rw [if_neg hne, if_pos hx]; unfold finS; rw [hv]) (value_1n T R O n c bs s w h hx ho hv)
      · exact g _ (by unfold valS; rw [if_neg hne, if_pos hx]; unfold finS; rw [hv]) (value_1y T R O n c bs s w h hx ho hv)
    · exact g _ (by unfold valS; rw [if_neg hne, if_neg (by omega), if_pos hx]; unfold finS; rw [show VV.ok ⟨2, i64w (xS bs (s1S bs s)), 0, ⟨#[]⟩⟩ = true from by simp [VV.ok, rightB]]) (value_2 T R O n c bs s w h hx ho)
    · have e3 : valS bs s = txtS bs (s1S bs s) := by unfold valS; rw [if_neg hne, if_neg (by omega), if_neg (by omega), if_pos hx]
      cases ht : okS (tS bs (s1S bs s))
      · exact g _ (by rw [e3]; unfold txtS; rw [ht]; unfold finS; rw [show VV.ok ⟨3, 0, 0, ⟨#[]⟩⟩ = true from by decide +kernel]; rfl) (value_3n T R O n c bs s w h hx ho ht)
      · have hm := okS_le (lim := 40) ht
        have hl := rdO_le bs (tS bs (s1S bs s)).p (tS bs (s1S bs s)).why (kS bs (s1S bs s))
        have hv : VV.ok ⟨3, 0, 0, bS bs (tS bs (s1S bs s)) (kS bs (s1S bs s))⟩ = true := by
          have : (bS bs (tS bs (s1S bs s)) (kS bs (s1S bs s))).size ≤ 40 := by unfold bS; show (rdO _ _ _ _).toArray.size ≤ 40; rw [List.size_toArray]; omega
          simp [VV.ok, rightB, this]
        exact g _ (by rw [e3]; unfold txtS; rw [if_pos ht]; unfold finS; rw [hv]) (value_3y T R O n c bs s w h hx ho ht hv)
    · exact g _ (by unfold valS; rw [if_neg hne, if_neg (by omega), if_neg (by omega), if_neg (by omega), if_pos hx]; unfold finS; rw [show VV.ok ⟨4, i64w (xS bs (s1S bs s)), xS bs (rdS bs (s1S bs s) 8), ⟨#[]⟩⟩ = true from by simp [VV.ok, rightB]]) (value_4 T R O n c bs s w h hx ho)
end Go.Proofs.Ytfpodalnnchnoaa
