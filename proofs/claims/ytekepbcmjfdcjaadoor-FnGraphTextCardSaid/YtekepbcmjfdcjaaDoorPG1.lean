/- Contracts: strings.SplitN, strings.Cut, strconv.Atoi, of any text. -/
import Derived.Shelf.Lay
import Derived.Shelf.Strings.Split
import Derived.Shelf.Strings.Cut
import Derived.Shelf.Strconv.AtoiAll
import Derived.Lib.AtoiErrMem
import Derived.Test.YtekepbcmjfdcjaaDoorFV
namespace Go.Proofs.YtekepbcmjfdcjaaDoor
open Go.Shelf
shelf_lay Lays.n147 Nm 147 at Tryd as Tryd.lays147
end Go.Proofs.YtekepbcmjfdcjaaDoor
namespace Go.Proofs.YtekepbcmjfdcjaaDoor
open Go.Shelf
shelf_lay Lays.n145 Nm 145 at Tryd as Tryd.lays145
end Go.Proofs.YtekepbcmjfdcjaaDoor
namespace Go.Proofs.YtekepbcmjfdcjaaDoor
open Go.Shelf
shelf_lay LaysC.n172 Nm 172 at Tryd as Tryd.lays172
end Go.Proofs.YtekepbcmjfdcjaaDoor
namespace Go.Proofs.YtekepbcmjfdcjaaDoor
open Go.RowKit set_option linter.unusedVariables false set_option linter.unusedSimpArgs false

/-- the value is an error's, or nil -/
def ErrV (v : Value) : Prop := v = .nilIface ∨ ∃ te pe, v = .iface te pe
/-- what the library's own variables hold -/
structure Vars (w : World) : Prop where
  m : ∃ m : Int, w.cell? ⟨2, 0, none⟩ = some (.int .i64 m)
  s : ∃ v, w.cell? ⟨0, 0, none⟩ = some v ∧ ErrV v
  r : ∃ v, w.cell? ⟨1, 0, none⟩ = some v ∧ ErrV v
theorem Vars.nx {w w' : World} (h : Vars w) (hn : Nx w w') : Vars w' := by
  obtain ⟨⟨m, hm⟩, ⟨s, hs, es⟩, ⟨r, hr, er⟩⟩ := h
  exact ⟨⟨m, hn.cell (Lib.lt_of_cell hm) hm⟩, ⟨s, hn.cell (Lib.lt_of_cell hs) hs, es⟩, ⟨r, hn.cell (Lib.lt_of_cell hr) hr, er⟩⟩

/-- a row of texts that may be read -/
def StrsAt (w : World) (A : Option Addr) (ps : List (List UInt8)) : Prop := 0 < ps.length → ∃ b off, A = some ⟨b, off, none⟩ ∧ b < w.heap.size ∧ ∀ (j : Nat) p, ps[j]? = some p → w.cell? ⟨b, off + j, none⟩ = some (Str p)
theorem StrsAt.nx {w w' : World} {A : Option Addr} {ps : List (List UInt8)} (h : StrsAt w A ps) (hn : Nx w w') : StrsAt w' A ps := fun h0 => by
  obtain ⟨b, off, e, hb, hc⟩ := h h0
  exact ⟨b, off, e, Nat.lt_of_lt_of_le hb hn.size, fun j p hj => hn.cell hb (hc j p hj)⟩
/-- the pieces that SplitN makes -/
def piecesL (l : List UInt8) : List (List UInt8) := Lib.splitK [32] 0 (min 42 (l.length + 1) - 1) l
theorem infoS : (Tryd.prog.info? 9).map (fun i => (i.zero, i.size, i.bytes)) = some (some (.string ByteArray.empty), 1, 16) := by kernel_rfl
def RetSc (ps : List (List UInt8)) (w : World) (e : Ending) (w' : World) : Prop := ∃ A c, e = .returned (.slice A ps.length c) ∧ StrsAt w' A ps ∧ ps.length ≤ c ∧ Nx w w'
def RetSt (ps : List (List UInt8)) (w : World) (e : Ending) (w' : World) : Prop := ∃ A c, e = .returned (.slice A ps.length c) ∧ StrsAt w' A ps ∧ Nx w w'
set_option maxRecDepth 100000 in
set_option maxHeartbeats 1000000 in
theorem splitN_c (l : List UInt8) (w : World) (hv : Vars w) (hl : l.length ≤ 1048576) :
    Calls Tryd.prog 20 #[Str l, Str [32], V 42] w (RetSc (piecesL l) w) := by
  obtain ⟨⟨m, hm⟩, _, _⟩ := hv
  have h := Any.strings_SplitN Tryd.lays147 infoS (⟨l.toArray⟩ : ByteArray) (⟨[32].toArray⟩ : ByteArray) 42 m w (by simp [ByteArray.size]; omega) hm (by simp [ByteArray.size]) (by omega) (by omega)
  refine Calls.mono h ?_
  rintro e w' ⟨rfl, rfl⟩
  have hsz : (⟨l.toArray⟩ : ByteArray).size = l.length := by simp [ByteArray.size]
  have hd := Lib.splitB_data (⟨[32].toArray⟩ : ByteArray) 0 (min 42 ((⟨l.toArray⟩ : ByteArray).size + 1) - 1) ⟨l.toArray⟩
  have hle := Lib.splitB_length_le (⟨[32].toArray⟩ : ByteArray) 0 (min 42 ((⟨l.toArray⟩ : ByteArray).size + 1) - 1) ⟨l.toArray⟩
  generalize hps : Lib.splitB (⟨[32].toArray⟩ : ByteArray) 0 (min 42 ((⟨l.toArray⟩ : ByteArray).size + 1) - 1) ⟨l.toArray⟩ = ps at *
  rw [hsz] at hd hle
  have hp : piecesL l = ps.map (·.data.toList) := hd.symm
  rw [hp]
  refine ⟨some ⟨w.heap.size, 0, none⟩, _, by rw [List.length_map], fun _ => ⟨w.heap.size, 0, rfl, by simp, fun j p hj => ?_⟩, by rw [List.length_map, hsz]; omega, Nx.alloc (.refl _) _⟩
  rw [List.getElem?_map] at hj
  obtain ⟨x, hx, rfl⟩ := Option.map_eq_some_iff.1 hj
  have hjl := (List.getElem?_eq_some_iff.1 hx).1
  rw [World.cell?_alloc_new]
  have hxe := (List.getElem?_eq_some_iff.1 hx).2
  simp [Lib.cellsOf, List.getElem?_append_left, hjl]
  rw [hxe]
set_option maxRecDepth 100000 in
theorem cut_c (l : List UInt8) (w : World) (hv : Vars w) (hl : l.length ≤ 1048576) :
    Calls Tryd.prog 22 #[Str l, Str [45]] w (fun e w' => ∃ f, e = .returned (.tuple #[Str (Lib.cut l [45]).1, Str (Lib.cut l [45]).2.1, .bool f]) ∧ Nx w w') := by
  obtain ⟨⟨m, hm⟩, _, _⟩ := hv
  have h := Any.strings_Cut Tryd.lays145 (⟨l.toArray⟩ : ByteArray) (⟨[45].toArray⟩ : ByteArray) m w (by simp [ByteArray.size]; omega) hm
  refine Calls.mono h ?_
  rintro e w' ⟨rfl, n, rfl⟩
  exact ⟨(Lib.cut l [45]).2.2, rfl, Nx.drewN (.refl _) _⟩
/-- what Atoi says of a text -/
def AtoiR (l : List UInt8) (v : Int) (er : Value) : Prop := (er = .nilIface ∧ Lib.atoiAll l = .ok v) ∨ ((∃ te pe, er = .iface te pe) ∧ ∀ u, Lib.atoiAll l ≠ .ok u)
set_option maxRecDepth 100000 in
theorem atoi_c (l : List UInt8) (w : World) (hv : Vars w) (hl : l.length ≤ 1048576) :
    Calls Tryd.prog 21 #[Str l] w (fun e w' => ∃ v er, e = .returned (.tuple #[V v, er]) ∧ AtoiR l v er ∧ Nx w w') := by
  obtain ⟨_, ⟨s, hs, es⟩, ⟨r, hr, er⟩⟩ := hv
  have hsz : (⟨l.toArray⟩ : ByteArray).size = l.length := by simp [ByteArray.size]
  cases ha : Lib.atoiAll l with
  | ok v =>
    refine Calls.mono (Any.strconv_Atoi_ok Tryd.lays172 ⟨l.toArray⟩ (by rw [hsz]; omega) v (by simpa using ha) w) ?_
    rintro e w' ⟨rfl, hw⟩
    refine ⟨v, _, rfl, .inl ⟨rfl, ha⟩, ?_⟩
    rcases hw with rfl | ⟨t, rfl⟩
    · exact .refl _
    · exact Lib.bytesWorld_below _ _ _
  | «syntax» =>
    refine Calls.mono (Any.strconv_Atoi_syntax Tryd.lays172 ⟨l.toArray⟩ (by rw [hsz]; omega) (by simpa using ha) s w hs es) ?_
    rintro e w' ⟨N, rfl, _, _, hb⟩
    exact ⟨_, _, rfl, .inr ⟨⟨_, _, rfl⟩, fun u hu => by rw [ha] at hu; cases hu⟩, hb⟩
  | range =>
    refine Calls.mono (Any.strconv_Atoi_range Tryd.lays172 ⟨l.toArray⟩ (by rw [hsz]; omega) (by simpa using ha) r w hr er) ?_
    rintro e w' ⟨N, rfl, _, _, hb⟩
    exact ⟨_, _, rfl, .inr ⟨⟨_, _, rfl⟩, fun u hu => by rw [ha] at hu; cases hu⟩, hb⟩
end Go.Proofs.YtekepbcmjfdcjaaDoor
