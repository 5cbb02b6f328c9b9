import Derived.KernelRfl
import Derived.Test.YtdjbkccoofcnjaaGreatProg
import Derived.Test.YtdjbkccoofcnjaaGreatNvN3
set_option linter.all false
set_option linter.unusedVariables false
set_option linter.unusedSimpArgs false
section
namespace Go.Nv
open Go.Proofs
set_option maxRecDepth 100000
theorem mixed : Tryz.prog.follows .mixedOrders = true := by kernel_rfl
def elemOkB (P : Program) (e : TypeId) (size bytes : Nat) : Bool :=
  match P.info? e with
  | some i => match i.zero with | some z => i.size == size && i.bytes == bytes && z.cells.size == size | none => false
  | none => false
theorem elemOk_of {P : Program} {e : TypeId} {size bytes : Nat} (h : elemOkB P e size bytes = true) : ElemOk P e size bytes := by
  unfold elemOkB at h
  split at h
  · rename_i i hi
    split at h
    · rename_i z hz
      simp only [Bool.and_eq_true, beq_iff_eq] at h
      exact ⟨i, z, hi, hz, h.1.1, h.1.2, h.2⟩
    · simp at h
  · simp at h
def fieldsOk (P : Program) (t : TypeId) (fs : List (Nat × TypeId)) : Bool :=
  match P.underlying t with
  | some (.struct l) => decide (l.toList.map (fun x => (x.offset, x.type)) = fs)
  | _ => false
theorem fields_of {P : Program} {t : TypeId} {fs : List (Nat × TypeId)} (h : fieldsOk P t fs = true) (f : Nat) : fieldOff P t f = fs[f]? := by
  unfold fieldsOk at h
  unfold fieldOff
  split at h
  · rename_i l hl
    simp only [decide_eq_true_eq] at h
    rw [hl, ← h]
    simp [List.getElem?_map]
  · simp at h
def ti0 : TI := ⟨1, 0, false, false, false, none, none, [], none, none, false, none, none⟩
def ti1 : TI := ⟨1, 8, false, false, false, none, none, [], some [D.v Value.nilFunc], none, false, none, none⟩
def ti2 : TI := ⟨1, 8, false, false, false, some .i64, none, [], some [D.v (Value.int IntKind.i64 (0))], none, false, none, none⟩
def ti3 : TI := ⟨1, 8, false, false, false, some .i64, none, [], some [D.v (Value.int IntKind.i64 (0))], none, true, none, none⟩
def ti4 : TI := ⟨1, 1, false, false, true, none, none, [], some [D.v (Value.bool false)], none, true, none, none⟩
def ti5 : TI := ⟨1, 1, false, false, false, some .u8, none, [], some [D.v (Value.int IntKind.u8 (0))], none, true, none, none⟩
def ti6 : TI := ⟨1, 1, false, false, false, some .u8, none, [], some [D.v (Value.int IntKind.u8 (0))], none, false, none, none⟩
def ti7 : TI := ⟨4, 24, true, false, false, none, none, [(0, 2), (1, 3), (2, 4), (3, 6)], some [D.v (Value.int IntKind.i64 (0)), D.v (Value.int IntKind.i64 (0)), D.v (Value.bool false), D.v (Value.int IntKind.u8 (0))], some [(0, 1), (1, 1), (2, 1), (3, 1)], false, some [6, 6, 1, 7], none⟩
def ti8 : TI := ⟨4, 24, true, false, false, none, none, [(0, 2), (1, 3), (2, 4), (3, 6)], some [D.v (Value.int IntKind.i64 (0)), D.v (Value.int IntKind.i64 (0)), D.v (Value.bool false), D.v (Value.int IntKind.u8 (0))], some [(0, 1), (1, 1), (2, 1), (3, 1)], false, some [6, 6, 1, 7], none⟩
def ti9 : TI := ⟨1, 16, false, true, false, none, none, [], some [D.v (Value.string { data := { toList := [] } })], none, false, none, none⟩
def ti10 : TI := ⟨1, 16, false, true, false, none, none, [], some [D.v (Value.string { data := { toList := [] } })], none, false, none, none⟩
def ti11 : TI := ⟨1, 16, false, true, false, none, none, [], some [D.v (Value.string { data := { toList := [] } })], none, false, none, none⟩
def ti12 : TI := ⟨1, 8, false, false, false, some .u64, none, [], some [D.v (Value.int IntKind.u64 (0))], none, false, none, none⟩
def ti13 : TI := ⟨2, 24, true, false, false, none, none, [(0, 9), (1, 12)], some [D.v (Value.string { data := { toList := [] } }), D.v (Value.int IntKind.u64 (0))], some [(0, 1), (1, 1)], false, none, none⟩
def ti14 : TI := ⟨2, 24, true, false, false, none, none, [(0, 9), (1, 12)], some [D.v (Value.string { data := { toList := [] } }), D.v (Value.int IntKind.u64 (0))], some [(0, 1), (1, 1)], false, none, none⟩
def ti15 : TI := ⟨1, 8, false, false, false, none, none, [], none, none, false, none, none⟩
def ti16 : TI := ⟨1, 8, false, false, false, none, none, [], none, none, false, none, none⟩
def ti17 : TI := ⟨1, 8, false, false, false, none, none, [], none, none, false, none, none⟩
def ti18 : TI := ⟨1, 8, true, false, false, none, none, [(0, 17)], none, none, false, none, none⟩
def ti19 : TI := ⟨1, 8, true, false, false, none, none, [(0, 17)], none, none, false, none, none⟩
def ti20 : TI := ⟨1, 16, false, false, false, none, none, [], some [D.v Value.nilIface], none, false, none, none⟩
def ti21 : TI := ⟨1, 4, false, false, false, some .i32, none, [], some [D.v (Value.int IntKind.i32 (0))], none, false, none, none⟩
def ti22 : TI := ⟨1, 24, false, false, false, none, some 29, [], some [D.v (.slice none 0 0)], none, true, none, none⟩
def ti23 : TI := ⟨1, 24, false, false, false, none, some 22, [], some [D.v (.slice none 0 0)], none, false, none, none⟩
def ti24 : TI := ⟨2, 48, true, false, false, none, none, [(0, 22), (1, 23)], some [D.v (.slice none 0 0), D.v (.slice none 0 0)], some [(0, 1), (1, 1)], false, none, none⟩
def ti25 : TI := ⟨2, 48, true, false, false, none, none, [(0, 22), (1, 23)], some [D.v (.slice none 0 0), D.v (.slice none 0 0)], some [(0, 1), (1, 1)], false, none, none⟩
def ti26 : TI := ⟨3, 40, true, false, false, none, none, [(0, 4), (1, 9), (2, 9)], some [D.v (Value.bool false), D.v (Value.string { data := { toList := [] } }), D.v (Value.string { data := { toList := [] } })], some [(0, 1), (1, 1), (2, 1)], false, some [1, 2, 2], none⟩
def ti27 : TI := ⟨3, 40, true, false, false, none, none, [(0, 4), (1, 9), (2, 9)], some [D.v (Value.bool false), D.v (Value.string { data := { toList := [] } }), D.v (Value.string { data := { toList := [] } })], some [(0, 1), (1, 1), (2, 1)], true, some [1, 2, 2], none⟩
def ti28 : TI := ⟨6, 80, true, false, false, none, none, [(0, 27), (3, 27)], some [D.v (Value.bool false), D.v (Value.string { data := { toList := [] } }), D.v (Value.string { data := { toList := [] } }), D.v (Value.bool false), D.v (Value.string { data := { toList := [] } }), D.v (Value.string { data := { toList := [] } })], some [(0, 3), (3, 3)], false, some [1, 2, 2, 1, 2, 2], none⟩
def ti29 : TI := ⟨6, 80, true, false, false, none, none, [(0, 27), (3, 27)], some [D.v (Value.bool false), D.v (Value.string { data := { toList := [] } }), D.v (Value.string { data := { toList := [] } }), D.v (Value.bool false), D.v (Value.string { data := { toList := [] } }), D.v (Value.string { data := { toList := [] } })], some [(0, 3), (3, 3)], true, some [1, 2, 2, 1, 2, 2], none⟩
def ti30 : TI := ⟨12, 160, true, false, false, none, none, [(0, 29), (6, 29)], some [D.v (Value.bool false), D.v (Value.string { data := { toList := [] } }), D.v (Value.string { data := { toList := [] } }), D.v (Value.bool false), D.v (Value.string { data := { toList := [] } }), D.v (Value.string { data := { toList := [] } }), D.v (Value.bool false), D.v (Value.string { data := { toList := [] } }), D.v (Value.string { data := { toList := [] } }), D.v (Value.bool false), D.v (Value.string { data := { toList := [] } }), D.v (Value.string { data := { toList := [] } })], some [(0, 6), (6, 6)], false, some [1, 2, 2, 1, 2, 2, 1, 2, 2, 1, 2, 2], none⟩
def ti31 : TI := ⟨12, 160, true, false, false, none, none, [(0, 29), (6, 29)], some [D.v (Value.bool false), D.v (Value.string { data := { toList := [] } }), D.v (Value.string { data := { toList := [] } }), D.v (Value.bool false), D.v (Value.string { data := { toList := [] } }), D.v (Value.string { data := { toList := [] } }), D.v (Value.bool false), D.v (Value.string { data := { toList := [] } }), D.v (Value.string { data := { toList := [] } }), D.v (Value.bool false), D.v (Value.string { data := { toList := [] } }), D.v (Value.string { data := { toList := [] } })], some [(0, 6), (6, 6)], false, some [1, 2, 2, 1, 2, 2, 1, 2, 2, 1, 2, 2], none⟩
def ti32 : TI := ⟨1, 8, false, false, false, none, none, [], some [D.v Value.nilFunc], none, false, none, none⟩
def ti33 : TI := ⟨1, 8, false, false, false, none, none, [], some [D.v Value.nilFunc], none, false, none, none⟩
def ti34 : TI := ⟨1, 24, false, false, false, none, some 27, [], some [D.v (.slice none 0 0)], none, true, none, none⟩
def ti35 : TI := ⟨1, 8, false, false, false, some .i64, none, [], some [D.v (Value.int IntKind.i64 (0))], none, false, none, none⟩
def ti36 : TI := ⟨1, 0, false, false, false, none, none, [], none, none, false, none, none⟩
def ti37 : TI := ⟨1, 8, false, false, false, none, none, [], some [D.v Value.nilFunc], none, false, none, none⟩
def ti38 : TI := ⟨1, 0, false, false, false, none, none, [], none, none, false, none, none⟩
def ti39 : TI := ⟨1, 8, false, false, false, none, none, [], some [D.v Value.nilFunc], none, false, none, none⟩
def ti40 : TI := ⟨1, 8, false, false, false, none, none, [], some [D.v Value.nilFunc], none, false, none, none⟩
def ti41 : TI := ⟨1, 8, false, false, false, none, none, [], some [D.v Value.nilFunc], none, false, none, none⟩
def ti42 : TI := ⟨1, 8, false, false, false, none, none, [], some [D.v Value.nilFunc], none, false, none, none⟩
def ti43 : TI := ⟨1, 8, false, false, false, none, none, [], some [D.v Value.nilFunc], none, false, none, none⟩
def ti44 : TI := ⟨1, 8, false, false, false, none, none, [], some [D.v Value.nilFunc], none, false, none, none⟩
def ti45 : TI := ⟨12, 160, true, false, false, none, none, [(0, 29), (6, 29)], some [D.v (Value.bool false), D.v (Value.string { data := { toList := [] } }), D.v (Value.string { data := { toList := [] } }), D.v (Value.bool false), D.v (Value.string { data := { toList := [] } }), D.v (Value.string { data := { toList := [] } }), D.v (Value.bool false), D.v (Value.string { data := { toList := [] } }), D.v (Value.string { data := { toList := [] } }), D.v (Value.bool false), D.v (Value.string { data := { toList := [] } }), D.v (Value.string { data := { toList := [] } })], some [(0, 6), (6, 6)], false, some [1, 2, 2, 1, 2, 2, 1, 2, 2, 1, 2, 2], none⟩
def ti46 : TI := ⟨12, 160, true, false, false, none, none, [(0, 29), (6, 29)], some [D.v (Value.bool false), D.v (Value.string { data := { toList := [] } }), D.v (Value.string { data := { toList := [] } }), D.v (Value.bool false), D.v (Value.string { data := { toList := [] } }), D.v (Value.string { data := { toList := [] } }), D.v (Value.bool false), D.v (Value.string { data := { toList := [] } }), D.v (Value.string { data := { toList := [] } }), D.v (Value.bool false), D.v (Value.string { data := { toList := [] } }), D.v (Value.string { data := { toList := [] } })], some [(0, 6), (6, 6)], true, some [1, 2, 2, 1, 2, 2, 1, 2, 2, 1, 2, 2], none⟩
def ti47 : TI := ⟨1, 24, false, false, false, none, some 3, [], some [D.v (.slice none 0 0)], none, true, none, none⟩
def ti48 : TI := ⟨1, 0, false, false, false, none, none, [], none, none, false, none, none⟩
def ti49 : TI := ⟨1, 8, false, false, false, none, none, [], some [D.v Value.nilFunc], none, false, none, none⟩
def ti50 : TI := ⟨1, 0, false, false, false, none, none, [], none, none, false, none, none⟩
def ti51 : TI := ⟨1, 8, false, false, false, none, none, [], some [D.v Value.nilFunc], none, false, none, none⟩
def ti52 : TI := ⟨1, 8, false, false, false, none, none, [], some [D.v Value.nilFunc], none, false, none, none⟩
def ti53 : TI := ⟨1, 8, false, false, false, none, none, [], some [D.v Value.nilFunc], none, false, none, none⟩
def ti54 : TI := ⟨1, 0, false, false, false, none, none, [], none, none, false, none, none⟩
def ti55 : TI := ⟨1, 8, false, false, false, none, none, [], some [D.v Value.nilFunc], none, false, none, none⟩
def ti56 : TI := ⟨1, 8, false, false, false, none, none, [], some [D.v Value.nilFunc], none, false, none, none⟩
def ti57 : TI := ⟨1, 8, false, false, false, none, none, [], some [D.v Value.nilFunc], none, false, none, none⟩
def ti58 : TI := ⟨1, 24, false, false, false, none, some 4, [], some [D.v (.slice none 0 0)], none, false, none, none⟩
def ti59 : TI := ⟨1, 0, false, false, false, none, none, [], none, none, false, none, none⟩
def ti60 : TI := ⟨1, 8, false, false, false, none, none, [], some [D.v Value.nilFunc], none, false, none, none⟩
def ti61 : TI := ⟨1, 8, false, false, false, none, none, [], some [D.v Value.nilFunc], none, false, none, none⟩
def ti62 : TI := ⟨1, 8, false, false, false, none, none, [], some [D.v Value.nilFunc], none, false, none, none⟩
def ti63 : TI := ⟨1, 8, false, false, false, none, none, [], some [D.v Value.nilFunc], none, false, none, none⟩
def ti64 : TI := ⟨1, 8, false, false, false, none, none, [], some [D.v Value.nilFunc], none, false, none, none⟩
def ti65 : TI := ⟨1, 8, false, false, false, none, none, [], some [D.v Value.nilFunc], none, false, none, none⟩
def ti66 : TI := ⟨1, 8, false, false, false, none, none, [], some [D.v Value.nilFunc], none, false, none, none⟩
def ti67 : TI := ⟨1, 8, false, false, false, none, none, [], some [D.v Value.nilFunc], none, false, none, none⟩
def ti68 : TI := ⟨1, 8, false, false, false, none, none, [], some [D.v Value.nilFunc], none, false, none, none⟩
def ti69 : TI := ⟨1, 8, false, false, false, none, none, [], some [D.v Value.nilFunc], none, false, none, none⟩
def ti70 : TI := ⟨1, 8, false, false, false, none, none, [], some [D.v Value.nilFunc], none, false, none, none⟩
def ti71 : TI := ⟨1, 24, false, false, false, none, some 147, [], some [D.v (.slice none 0 0)], none, false, none, none⟩
def ti72 : TI := ⟨1, 0, false, false, false, none, none, [], none, none, false, none, none⟩
def ti73 : TI := ⟨1, 8, false, false, false, none, none, [], some [D.v Value.nilFunc], none, false, none, none⟩
def ti74 : TI := ⟨1, 0, false, false, false, none, none, [], none, none, false, none, none⟩
def ti75 : TI := ⟨1, 8, false, false, false, none, none, [], some [D.v Value.nilFunc], none, false, none, none⟩
def ti76 : TI := ⟨1, 8, false, false, false, none, none, [], some [D.v Value.nilFunc], none, false, none, none⟩
def ti77 : TI := ⟨1, 8, false, false, false, none, none, [], some [D.v Value.nilFunc], none, false, none, none⟩
def ti78 : TI := ⟨1, 0, false, false, false, none, none, [], none, none, false, none, none⟩
def ti79 : TI := ⟨1, 8, false, false, false, none, none, [], some [D.v Value.nilFunc], none, false, none, none⟩
def ti80 : TI := ⟨1, 8, false, false, false, none, none, [], some [D.v Value.nilFunc], none, false, none, none⟩
def ti81 : TI := ⟨1, 8, false, false, false, none, none, [], some [D.v Value.nilFunc], none, false, none, none⟩
def ti82 : TI := ⟨1, 8, false, false, false, none, none, [], some [D.v Value.nilFunc], none, false, none, none⟩
def ti83 : TI := ⟨1, 0, false, false, false, none, none, [], none, none, false, none, none⟩
def ti84 : TI := ⟨1, 8, false, false, false, none, none, [], some [D.v Value.nilFunc], none, false, none, none⟩
def ti85 : TI := ⟨1, 0, false, false, false, none, none, [], none, none, false, none, none⟩
def ti86 : TI := ⟨1, 8, false, false, false, none, none, [], some [D.v Value.nilFunc], none, false, none, none⟩
def ti87 : TI := ⟨1, 8, false, false, false, none, none, [], some [D.v Value.nilFunc], none, false, none, none⟩
def ti88 : TI := ⟨1, 8, false, false, false, none, none, [], some [D.v Value.nilFunc], none, false, none, none⟩
def ti89 : TI := ⟨1, 8, false, false, false, none, none, [], some [D.v Value.nilFunc], none, false, none, none⟩
def ti90 : TI := ⟨1, 8, false, false, false, none, none, [], some [D.v Value.nilFunc], none, false, none, none⟩
def ti91 : TI := ⟨14, 176, true, false, false, none, none, [(0, 31), (12, 3), (13, 3)], some [D.v (Value.bool false), D.v (Value.string { data := { toList := [] } }), D.v (Value.string { data := { toList := [] } }), D.v (Value.bool false), D.v (Value.string { data := { toList := [] } }), D.v (Value.string { data := { toList := [] } }), D.v (Value.bool false), D.v (Value.string { data := { toList := [] } }), D.v (Value.string { data := { toList := [] } }), D.v (Value.bool false), D.v (Value.string { data := { toList := [] } }), D.v (Value.string { data := { toList := [] } }), D.v (Value.int IntKind.i64 (0)), D.v (Value.int IntKind.i64 (0))], some [(0, 12), (12, 1), (13, 1)], false, some [1, 2, 2, 1, 2, 2, 1, 2, 2, 1, 2, 2, 6, 6], none⟩
def ti92 : TI := ⟨14, 176, true, false, false, none, none, [(0, 31), (12, 3), (13, 3)], some [D.v (Value.bool false), D.v (Value.string { data := { toList := [] } }), D.v (Value.string { data := { toList := [] } }), D.v (Value.bool false), D.v (Value.string { data := { toList := [] } }), D.v (Value.string { data := { toList := [] } }), D.v (Value.bool false), D.v (Value.string { data := { toList := [] } }), D.v (Value.string { data := { toList := [] } }), D.v (Value.bool false), D.v (Value.string { data := { toList := [] } }), D.v (Value.string { data := { toList := [] } }), D.v (Value.int IntKind.i64 (0)), D.v (Value.int IntKind.i64 (0))], some [(0, 12), (12, 1), (13, 1)], false, some [1, 2, 2, 1, 2, 2, 1, 2, 2, 1, 2, 2, 6, 6], none⟩
def ti93 : TI := ⟨1, 8, false, false, false, none, none, [], some [D.v Value.nilFunc], none, false, none, none⟩
def ti94 : TI := ⟨1, 8, false, false, false, none, none, [], some [D.v Value.nilFunc], none, false, none, none⟩
def ti95 : TI := ⟨1, 8, false, false, false, none, none, [], some [D.v Value.nilFunc], none, false, none, none⟩
def ti96 : TI := ⟨1, 8, false, false, false, none, none, [], some [D.v Value.nilFunc], none, false, none, none⟩
def ti97 : TI := ⟨1, 8, false, false, false, none, none, [], some [D.v Value.nilFunc], none, false, none, none⟩
def ti98 : TI := ⟨2, 24, true, false, false, none, none, [(0, 4), (1, 9)], some [D.v (Value.bool false), D.v (Value.string { data := { toList := [] } })], some [(0, 1), (1, 1)], false, some [1, 2], none⟩
def ti99 : TI := ⟨2, 24, true, false, false, none, none, [(0, 4), (1, 9)], some [D.v (Value.bool false), D.v (Value.string { data := { toList := [] } })], some [(0, 1), (1, 1)], false, some [1, 2], none⟩
def ti100 : TI := ⟨1, 8, false, false, false, none, none, [], some [D.v Value.nilFunc], none, false, none, none⟩
def ti101 : TI := ⟨4, 48, true, false, false, none, none, [(0, 99), (2, 99)], some [D.v (Value.bool false), D.v (Value.string { data := { toList := [] } }), D.v (Value.bool false), D.v (Value.string { data := { toList := [] } })], some [(0, 2), (2, 2)], false, some [1, 2, 1, 2], none⟩
def ti102 : TI := ⟨4, 48, true, false, false, none, none, [(0, 99), (2, 99)], some [D.v (Value.bool false), D.v (Value.string { data := { toList := [] } }), D.v (Value.bool false), D.v (Value.string { data := { toList := [] } })], some [(0, 2), (2, 2)], false, some [1, 2, 1, 2], none⟩
def ti103 : TI := ⟨1, 8, false, false, false, none, none, [], some [D.v Value.nilFunc], none, false, none, none⟩
def ti104 : TI := ⟨1, 8, false, false, false, none, none, [], some [D.v Value.nilFunc], none, false, none, none⟩
def ti105 : TI := ⟨1, 8, false, false, false, none, none, [], some [D.v Value.nilFunc], none, false, none, none⟩
def ti106 : TI := ⟨1, 8, false, false, false, none, none, [], some [D.v Value.nilFunc], none, false, none, none⟩
def ti107 : TI := ⟨1, 8, false, false, false, none, none, [], some [D.v Value.nilFunc], none, false, none, none⟩
def ti108 : TI := ⟨1, 8, false, false, false, none, none, [], some [D.v Value.nilFunc], none, false, none, none⟩
def ti109 : TI := ⟨1, 8, false, false, false, none, none, [], some [D.v Value.nilFunc], none, false, none, none⟩
def ti110 : TI := ⟨1, 8, false, false, false, none, none, [], some [D.v Value.nilFunc], none, false, none, none⟩
def ti111 : TI := ⟨1, 8, false, false, false, none, none, [], some [D.v Value.nilFunc], none, false, none, none⟩
def ti112 : TI := ⟨1, 8, false, false, false, none, none, [], some [D.v Value.nilFunc], none, false, none, none⟩
def ti113 : TI := ⟨1, 8, false, false, false, none, none, [], some [D.v Value.nilFunc], none, false, none, none⟩
def ti114 : TI := ⟨1, 8, false, false, false, none, none, [], some [D.v Value.nilFunc], none, false, none, none⟩
def ti115 : TI := ⟨1, 8, false, false, false, none, none, [], some [D.v Value.nilFunc], none, false, none, none⟩
def ti116 : TI := ⟨1, 8, false, false, false, none, none, [], some [D.v Value.nilFunc], none, false, none, none⟩
def ti117 : TI := ⟨1, 8, false, false, false, none, none, [], some [D.v Value.nilFunc], none, false, none, none⟩
def ti118 : TI := ⟨1, 8, false, false, false, none, none, [], some [D.v Value.nilFunc], none, false, none, none⟩
def ti119 : TI := ⟨4, 32, true, false, false, none, none, [], some [D.v Value.nilFunc, D.v Value.nilFunc, D.v Value.nilFunc, D.v Value.nilFunc], some [(0, 1), (1, 1), (2, 1), (3, 1)], false, none, some (4, 118)⟩
def ti120 : TI := ⟨1, 8, false, false, false, none, none, [], some [D.v Value.nilFunc], none, false, none, none⟩
def ti121 : TI := ⟨1, 8, false, false, false, none, none, [], some [D.v Value.nilFunc], none, false, none, none⟩
def ti122 : TI := ⟨1, 8, false, false, false, none, none, [], some [D.v Value.nilFunc], none, false, none, none⟩
def ti123 : TI := ⟨1, 8, false, false, false, none, none, [], some [D.v Value.nilFunc], none, false, none, none⟩
def ti124 : TI := ⟨1, 24, false, false, false, none, some 46, [], some [D.v (.slice none 0 0)], none, false, none, none⟩
def ti125 : TI := ⟨1, 0, false, false, false, none, none, [], none, none, false, none, none⟩
def ti126 : TI := ⟨1, 8, false, false, false, none, none, [], some [D.v Value.nilFunc], none, false, none, none⟩
def ti127 : TI := ⟨1, 8, false, false, false, none, none, [], some [D.v Value.nilFunc], none, false, none, none⟩
def ti128 : TI := ⟨1, 8, false, false, false, none, none, [], some [D.v Value.nilFunc], none, false, none, none⟩
def ti129 : TI := ⟨1, 8, false, false, false, none, none, [], some [D.v Value.nilFunc], none, false, none, none⟩
def ti130 : TI := ⟨1, 8, false, false, false, none, none, [], some [D.v Value.nilFunc], none, false, none, none⟩
def ti131 : TI := ⟨1, 8, false, false, false, none, none, [], some [D.v Value.nilFunc], none, false, none, none⟩
def ti132 : TI := ⟨1, 8, false, false, false, none, none, [], some [D.v Value.nilFunc], none, false, none, none⟩
def ti133 : TI := ⟨1, 8, false, false, false, none, none, [], some [D.v Value.nilFunc], none, false, none, none⟩
def ti134 : TI := ⟨1, 8, false, false, false, none, none, [], some [D.v Value.nilFunc], none, false, none, none⟩
def ti135 : TI := ⟨1, 8, false, false, false, none, none, [], some [D.v Value.nilFunc], none, false, none, none⟩
def ti136 : TI := ⟨1, 8, false, false, false, none, none, [], some [D.v Value.nilFunc], none, false, none, none⟩
def ti137 : TI := ⟨1, 8, false, false, false, none, none, [], some [D.v Value.nilFunc], none, false, none, none⟩
def ti138 : TI := ⟨1, 8, false, false, false, none, none, [], some [D.v Value.nilFunc], none, false, none, none⟩
def ti139 : TI := ⟨1, 8, false, false, false, none, none, [], some [D.v Value.nilFunc], none, false, none, none⟩
def ti140 : TI := ⟨1, 0, false, false, false, none, none, [], none, none, false, none, none⟩
def ti141 : TI := ⟨1, 8, false, false, false, none, none, [], some [D.v Value.nilFunc], none, false, none, none⟩
def ti142 : TI := ⟨1, 8, false, false, false, none, none, [], some [D.v Value.nilFunc], none, false, none, none⟩
def ti143 : TI := ⟨1, 8, false, false, false, none, none, [], some [D.v Value.nilFunc], none, false, none, none⟩
def ti144 : TI := ⟨1, 8, false, false, false, none, none, [], some [D.v Value.nilFunc], none, false, none, none⟩
def ti145 : TI := ⟨1, 8, false, false, false, none, none, [], some [D.v Value.nilFunc], none, false, none, none⟩
def ti146 : TI := ⟨6, 80, true, false, false, none, none, [(0, 27), (3, 27)], some [D.v (Value.bool false), D.v (Value.string { data := { toList := [] } }), D.v (Value.string { data := { toList := [] } }), D.v (Value.bool false), D.v (Value.string { data := { toList := [] } }), D.v (Value.string { data := { toList := [] } })], some [(0, 3), (3, 3)], false, some [1, 2, 2, 1, 2, 2], none⟩
def ti147 : TI := ⟨6, 80, true, false, false, none, none, [(0, 27), (3, 27)], some [D.v (Value.bool false), D.v (Value.string { data := { toList := [] } }), D.v (Value.string { data := { toList := [] } }), D.v (Value.bool false), D.v (Value.string { data := { toList := [] } }), D.v (Value.string { data := { toList := [] } })], some [(0, 3), (3, 3)], true, some [1, 2, 2, 1, 2, 2], none⟩
def ti148 : TI := ⟨1, 8, false, false, false, none, none, [], some [D.v Value.nilFunc], none, false, none, none⟩
def ti149 : TI := ⟨1, 8, false, false, false, none, none, [], some [D.v Value.nilFunc], none, false, none, none⟩
def ti150 : TI := ⟨1, 24, false, false, false, none, some 5, [], some [D.v (.slice none 0 0)], none, false, none, none⟩
def ti151 : TI := ⟨1, 8, false, false, false, none, none, [], some [D.v Value.nilFunc], none, false, none, none⟩
def ti152 : TI := ⟨1, 8, false, false, false, none, none, [], some [D.v Value.nilFunc], none, false, none, none⟩
def ti153 : TI := ⟨1, 8, false, false, false, none, none, [], some [D.v Value.nilFunc], none, false, none, none⟩
def ti154 : TI := ⟨1, 8, false, false, false, none, none, [], some [D.v Value.nilFunc], none, false, none, none⟩
def ti155 : TI := ⟨1, 8, false, false, false, none, none, [], some [D.v Value.nilFunc], none, false, none, none⟩
def ti156 : TI := ⟨1, 8, false, false, false, none, none, [], some [D.v Value.nilFunc], none, false, none, none⟩
def ti157 : TI := ⟨1, 8, false, false, false, none, none, [], some [D.v Value.nilFunc], none, false, none, none⟩
def ti158 : TI := ⟨1, 8, false, false, false, none, none, [], some [D.v Value.nilFunc], none, false, none, none⟩
def ti159 : TI := ⟨1, 8, false, false, false, none, none, [], some [D.v Value.nilFunc], none, false, none, none⟩
def ti160 : TI := ⟨1, 8, false, false, false, none, none, [], some [D.v Value.nilFunc], none, false, none, none⟩
def ti161 : TI := ⟨1, 24, false, false, false, none, some 34, [], some [D.v (.slice none 0 0)], none, false, none, none⟩
def ti162 : TI := ⟨1, 24, false, false, false, none, some 47, [], some [D.v (.slice none 0 0)], none, false, none, none⟩
def ti163 : TI := ⟨16, 256, true, false, false, none, none, [(0, 31), (12, 124), (13, 34), (14, 161), (15, 162)], some [D.v (Value.bool false), D.v (Value.string { data := { toList := [] } }), D.v (Value.string { data := { toList := [] } }), D.v (Value.bool false), D.v (Value.string { data := { toList := [] } }), D.v (Value.string { data := { toList := [] } }), D.v (Value.bool false), D.v (Value.string { data := { toList := [] } }), D.v (Value.string { data := { toList := [] } }), D.v (Value.bool false), D.v (Value.string { data := { toList := [] } }), D.v (Value.string { data := { toList := [] } }), D.v (.slice none 0 0), D.v (.slice none 0 0), D.v (.slice none 0 0), D.v (.slice none 0 0)], some [(0, 12), (12, 1), (13, 1), (14, 1), (15, 1)], false, none, none⟩
def ti164 : TI := ⟨16, 256, true, false, false, none, none, [(0, 31), (12, 124), (13, 34), (14, 161), (15, 162)], some [D.v (Value.bool false), D.v (Value.string { data := { toList := [] } }), D.v (Value.string { data := { toList := [] } }), D.v (Value.bool false), D.v (Value.string { data := { toList := [] } }), D.v (Value.string { data := { toList := [] } }), D.v (Value.bool false), D.v (Value.string { data := { toList := [] } }), D.v (Value.string { data := { toList := [] } }), D.v (Value.bool false), D.v (Value.string { data := { toList := [] } }), D.v (Value.string { data := { toList := [] } }), D.v (.slice none 0 0), D.v (.slice none 0 0), D.v (.slice none 0 0), D.v (.slice none 0 0)], some [(0, 12), (12, 1), (13, 1), (14, 1), (15, 1)], false, none, none⟩
def ti165 : TI := ⟨1, 0, false, false, false, none, none, [], none, none, false, none, none⟩
def ti166 : TI := ⟨1, 8, false, false, false, none, none, [], some [D.v Value.nilFunc], none, false, none, none⟩
def ti167 : TI := ⟨1, 8, false, false, false, none, none, [], some [D.v Value.nilFunc], none, false, none, none⟩
def ti168 : TI := ⟨1, 8, false, false, false, none, none, [], some [D.v Value.nilFunc], none, false, none, none⟩
def ti169 : TI := ⟨1, 8, false, false, false, some .u64, none, [], some [D.v (Value.int IntKind.u64 (0))], none, false, none, none⟩
def ti170 : TI := ⟨1, 8, false, false, false, none, none, [], some [D.v Value.nilFunc], none, false, none, none⟩
def ti171 : TI := ⟨1, 4, false, false, false, some .u32, none, [], some [D.v (Value.int IntKind.u32 (0))], none, true, none, none⟩
def ti172 : TI := ⟨1, 8, false, false, false, some .u64, none, [], some [D.v (Value.int IntKind.u64 (0))], none, false, none, none⟩
def ti173 : TI := ⟨1, 24, false, false, false, none, some 171, [], some [D.v (.slice none 0 0)], none, false, none, none⟩
def ti174 : TI := ⟨1, 24, false, false, false, none, some 171, [], some [D.v (.slice none 0 0)], none, false, none, none⟩
def ti175 : TI := ⟨1, 8, false, false, false, none, none, [], some [D.v Value.nilFunc], none, false, none, none⟩
def ti176 : TI := ⟨1, 0, false, false, false, none, none, [], none, none, false, none, none⟩
def ti177 : TI := ⟨1, 8, false, false, false, none, none, [], some [D.v Value.nilFunc], none, false, none, none⟩
def ti178 : TI := ⟨1, 0, false, false, false, none, none, [], none, none, false, none, none⟩
def ti179 : TI := ⟨1, 8, false, false, false, none, none, [], some [D.v Value.nilFunc], none, false, none, none⟩
def ti180 : TI := ⟨1, 8, false, false, false, none, none, [], some [D.v Value.nilFunc], none, false, none, none⟩
def ti181 : TI := ⟨1, 0, false, false, false, none, none, [], none, none, false, none, none⟩
def ti182 : TI := ⟨1, 8, false, false, false, none, none, [], some [D.v Value.nilFunc], none, false, none, none⟩
def ti183 : TI := ⟨1, 8, false, false, false, none, none, [], some [D.v Value.nilFunc], none, false, none, none⟩
def ti184 : TI := ⟨1, 8, false, false, false, none, none, [], some [D.v Value.nilFunc], none, false, none, none⟩
def ti185 : TI := ⟨1, 8, false, false, false, none, none, [], some [D.v Value.nilFunc], none, false, none, none⟩
def ti186 : TI := ⟨1, 8, false, false, false, none, none, [], some [D.v Value.nilFunc], none, false, none, none⟩
def ti187 : TI := ⟨1, 0, false, false, false, none, none, [], none, none, false, none, none⟩
def ti188 : TI := ⟨1, 8, false, false, false, none, none, [], some [D.v Value.nilFunc], none, false, none, none⟩
def ti189 : TI := ⟨1, 8, false, false, false, none, none, [], some [D.v Value.nilFunc], none, false, none, none⟩
def ti190 : TI := ⟨1, 8, false, false, false, none, none, [], some [D.v Value.nilFunc], none, false, none, none⟩
def ti191 : TI := ⟨1, 8, false, false, false, none, none, [], some [D.v Value.nilFunc], none, false, none, none⟩
def ti192 : TI := ⟨1, 8, false, false, false, none, none, [], some [D.v Value.nilFunc], none, false, none, none⟩
def ti193 : TI := ⟨1, 24, false, false, false, none, some 197, [], some [D.v (.slice none 0 0)], none, false, none, none⟩
def ti194 : TI := ⟨1, 0, false, false, false, none, none, [], none, none, false, none, none⟩
def ti195 : TI := ⟨1, 8, false, false, false, none, none, [], some [D.v Value.nilFunc], none, false, none, none⟩
def ti196 : TI := ⟨18, 240, true, false, false, none, none, [(0, 29), (6, 29), (12, 29)], some [D.v (Value.bool false), D.v (Value.string { data := { toList := [] } }), D.v (Value.string { data := { toList := [] } }), D.v (Value.bool false), D.v (Value.string { data := { toList := [] } }), D.v (Value.string { data := { toList := [] } }), D.v (Value.bool false), D.v (Value.string { data := { toList := [] } }), D.v (Value.string { data := { toList := [] } }), D.v (Value.bool false), D.v (Value.string { data := { toList := [] } }), D.v (Value.string { data := { toList := [] } }), D.v (Value.bool false), D.v (Value.string { data := { toList := [] } }), D.v (Value.string { data := { toList := [] } }), D.v (Value.bool false), D.v (Value.string { data := { toList := [] } }), D.v (Value.string { data := { toList := [] } })], some [(0, 6), (6, 6), (12, 6)], false, some [1, 2, 2, 1, 2, 2, 1, 2, 2, 1, 2, 2, 1, 2, 2, 1, 2, 2], none⟩
def ti197 : TI := ⟨18, 240, true, false, false, none, none, [(0, 29), (6, 29), (12, 29)], some [D.v (Value.bool false), D.v (Value.string { data := { toList := [] } }), D.v (Value.string { data := { toList := [] } }), D.v (Value.bool false), D.v (Value.string { data := { toList := [] } }), D.v (Value.string { data := { toList := [] } }), D.v (Value.bool false), D.v (Value.string { data := { toList := [] } }), D.v (Value.string { data := { toList := [] } }), D.v (Value.bool false), D.v (Value.string { data := { toList := [] } }), D.v (Value.string { data := { toList := [] } }), D.v (Value.bool false), D.v (Value.string { data := { toList := [] } }), D.v (Value.string { data := { toList := [] } }), D.v (Value.bool false), D.v (Value.string { data := { toList := [] } }), D.v (Value.string { data := { toList := [] } })], some [(0, 6), (6, 6), (12, 6)], true, some [1, 2, 2, 1, 2, 2, 1, 2, 2, 1, 2, 2, 1, 2, 2, 1, 2, 2], none⟩
def ti198 : TI := ⟨1, 0, false, false, false, none, none, [], none, none, false, none, none⟩
def ti199 : TI := ⟨1, 8, false, false, false, none, none, [], some [D.v Value.nilFunc], none, false, none, none⟩
def ti200 : TI := ⟨1, 8, false, false, false, none, none, [], some [D.v Value.nilFunc], none, false, none, none⟩
def ti201 : TI := ⟨1, 8, false, false, false, none, none, [], some [D.v Value.nilFunc], none, false, none, none⟩
def ti202 : TI := ⟨1, 8, false, false, false, none, none, [], some [D.v Value.nilFunc], none, false, none, none⟩
def ti203 : TI := ⟨1, 0, false, false, false, none, none, [], none, none, false, none, none⟩
def ti204 : TI := ⟨1, 8, false, false, false, none, none, [], some [D.v Value.nilFunc], none, false, none, none⟩
def ti205 : TI := ⟨1, 8, false, false, false, none, none, [], some [D.v Value.nilFunc], none, false, none, none⟩
def ti206 : TI := ⟨1, 8, false, false, false, none, none, [], some [D.v Value.nilFunc], none, false, none, none⟩
def ti207 : TI := ⟨1, 8, false, false, false, none, none, [], some [D.v Value.nilFunc], none, false, none, none⟩
def ti208 : TI := ⟨1, 8, false, false, false, none, none, [], some [D.v Value.nilFunc], none, false, none, none⟩
def ti209 : TI := ⟨1, 8, false, false, false, none, none, [], some [D.v Value.nilFunc], none, false, none, none⟩
def ti210 : TI := ⟨1, 8, false, false, false, none, none, [], some [D.v Value.nilFunc], none, false, none, none⟩
def ti211 : TI := ⟨1, 8, false, false, false, none, none, [], some [D.v Value.nilFunc], none, false, none, none⟩
def ti212 : TI := ⟨1, 8, false, false, false, none, none, [], some [D.v Value.nilFunc], none, false, none, none⟩
def ti213 : TI := ⟨1, 8, false, false, false, none, none, [], some [D.v Value.nilFunc], none, false, none, none⟩
def ti214 : TI := ⟨1, 8, false, false, false, none, none, [], some [D.v Value.nilFunc], none, false, none, none⟩
def ti215 : TI := ⟨1, 8, false, false, false, none, none, [], some [D.v Value.nilFunc], none, false, none, none⟩
def ti216 : TI := ⟨1, 8, false, false, false, none, none, [], some [D.v Value.nilFunc], none, false, none, none⟩
def ti217 : TI := ⟨1, 8, false, false, false, none, none, [], some [D.v Value.nilFunc], none, false, none, none⟩
def ti218 : TI := ⟨1, 8, false, false, false, none, none, [], some [D.v Value.nilFunc], none, false, none, none⟩
def ti219 : TI := ⟨1, 8, false, false, false, none, none, [], some [D.v Value.nilFunc], none, false, none, none⟩
def ti220 : TI := ⟨1, 8, false, false, false, none, none, [], some [D.v Value.nilFunc], none, false, none, none⟩
def ti221 : TI := ⟨1, 8, false, false, false, none, none, [], some [D.v Value.nilFunc], none, false, none, none⟩
def ti222 : TI := ⟨1, 8, false, false, false, none, none, [], some [D.v Value.nilFunc], none, false, none, none⟩
def ti223 : TI := ⟨1, 8, false, false, false, none, none, [], some [D.v Value.nilFunc], none, false, none, none⟩
def ti224 : TI := ⟨1, 8, false, false, false, none, none, [], some [D.v Value.nilFunc], none, false, none, none⟩
def ti225 : TI := ⟨1, 8, false, false, false, none, none, [], some [D.v Value.nilFunc], none, false, none, none⟩
def ti226 : TI := ⟨1, 8, false, false, false, none, none, [], some [D.v Value.nilFunc], none, false, none, none⟩
def ti227 : TI := ⟨1, 8, false, false, false, none, none, [], some [D.v Value.nilFunc], none, false, none, none⟩
def ti228 : TI := ⟨1, 8, false, false, false, none, none, [], some [D.v Value.nilFunc], none, false, none, none⟩
def ti229 : TI := ⟨1, 8, false, false, false, none, none, [], some [D.v Value.nilFunc], none, false, none, none⟩
def ti230 : TI := ⟨1, 8, false, false, false, none, none, [], some [D.v Value.nilFunc], none, false, none, none⟩
def ti231 : TI := ⟨1, 8, false, false, false, none, none, [], some [D.v Value.nilFunc], none, false, none, none⟩
def ti232 : TI := ⟨1, 8, false, false, false, none, none, [], some [D.v Value.nilFunc], none, false, none, none⟩
def ti233 : TI := ⟨1, 8, false, false, false, none, none, [], some [D.v Value.nilFunc], none, false, none, none⟩
def ti234 : TI := ⟨1, 24, false, false, false, none, some 288, [], some [D.v (.slice none 0 0)], none, false, none, none⟩
def ti235 : TI := ⟨1, 8, false, false, false, none, none, [], some [D.v Value.nilFunc], none, false, none, none⟩
def ti236 : TI := ⟨13, 184, true, false, false, none, none, [(0, 31), (12, 234)], some [D.v (Value.bool false), D.v (Value.string { data := { toList := [] } }), D.v (Value.string { data := { toList := [] } }), D.v (Value.bool false), D.v (Value.string { data := { toList := [] } }), D.v (Value.string { data := { toList := [] } }), D.v (Value.bool false), D.v (Value.string { data := { toList := [] } }), D.v (Value.string { data := { toList := [] } }), D.v (Value.bool false), D.v (Value.string { data := { toList := [] } }), D.v (Value.string { data := { toList := [] } }), D.v (.slice none 0 0)], some [(0, 12), (12, 1)], false, none, none⟩
def ti237 : TI := ⟨13, 184, true, false, false, none, none, [(0, 31), (12, 234)], some [D.v (Value.bool false), D.v (Value.string { data := { toList := [] } }), D.v (Value.string { data := { toList := [] } }), D.v (Value.bool false), D.v (Value.string { data := { toList := [] } }), D.v (Value.string { data := { toList := [] } }), D.v (Value.bool false), D.v (Value.string { data := { toList := [] } }), D.v (Value.string { data := { toList := [] } }), D.v (Value.bool false), D.v (Value.string { data := { toList := [] } }), D.v (Value.string { data := { toList := [] } }), D.v (.slice none 0 0)], some [(0, 12), (12, 1)], false, none, none⟩
def ti238 : TI := ⟨1, 8, false, false, false, none, none, [], some [D.v Value.nilFunc], none, false, none, none⟩
def ti239 : TI := ⟨1, 8, false, false, false, none, none, [], some [D.v Value.nilFunc], none, false, none, none⟩
def ti240 : TI := ⟨1, 8, false, false, false, none, none, [], some [D.v Value.nilFunc], none, false, none, none⟩
def ti241 : TI := ⟨1, 8, false, false, false, none, none, [], some [D.v Value.nilFunc], none, false, none, none⟩
def ti242 : TI := ⟨1, 8, false, false, false, none, none, [], some [D.v Value.nilFunc], none, false, none, none⟩
def ti243 : TI := ⟨1, 0, false, false, false, none, none, [], none, none, false, none, none⟩
def ti244 : TI := ⟨1, 8, false, false, false, none, none, [], some [D.v Value.nilFunc], none, false, none, none⟩
def ti245 : TI := ⟨1, 8, false, false, false, none, none, [], some [D.v Value.nilFunc], none, false, none, none⟩
def ti246 : TI := ⟨8, 8, true, false, false, none, none, [], some [D.v (Value.int IntKind.u8 (0)), D.v (Value.int IntKind.u8 (0)), D.v (Value.int IntKind.u8 (0)), D.v (Value.int IntKind.u8 (0)), D.v (Value.int IntKind.u8 (0)), D.v (Value.int IntKind.u8 (0)), D.v (Value.int IntKind.u8 (0)), D.v (Value.int IntKind.u8 (0))], some [(0, 1), (1, 1), (2, 1), (3, 1), (4, 1), (5, 1), (6, 1), (7, 1)], false, none, some (8, 5)⟩
def ti247 : TI := ⟨1, 8, false, false, false, none, none, [], some [D.v Value.nilFunc], none, false, none, none⟩
def ti248 : TI := ⟨1, 0, false, false, false, none, none, [], none, none, false, none, none⟩
def ti249 : TI := ⟨1, 8, false, false, false, none, none, [], some [D.v Value.nilFunc], none, false, none, none⟩
def ti250 : TI := ⟨1, 8, false, false, false, none, none, [], some [D.v Value.nilFunc], none, false, none, none⟩
def ti251 : TI := ⟨1, 8, false, false, false, none, none, [], some [D.v Value.nilFunc], none, false, none, none⟩
def ti252 : TI := ⟨1, 0, false, false, false, none, none, [], none, none, false, none, none⟩
def ti253 : TI := ⟨1, 8, false, false, false, none, none, [], some [D.v Value.nilFunc], none, false, none, none⟩
def ti254 : TI := ⟨1, 8, false, false, false, none, none, [], some [D.v Value.nilFunc], none, false, none, none⟩
def ti255 : TI := ⟨1, 8, false, false, false, none, none, [], some [D.v Value.nilFunc], none, false, none, none⟩
def ti256 : TI := ⟨1, 8, false, false, false, none, none, [], some [D.v Value.nilFunc], none, false, none, none⟩
def ti257 : TI := ⟨1, 8, false, false, false, none, none, [], some [D.v Value.nilFunc], none, false, none, none⟩
def ti258 : TI := ⟨9, 120, true, false, false, none, none, [(0, 27), (3, 27), (6, 27)], some [D.v (Value.bool false), D.v (Value.string { data := { toList := [] } }), D.v (Value.string { data := { toList := [] } }), D.v (Value.bool false), D.v (Value.string { data := { toList := [] } }), D.v (Value.string { data := { toList := [] } }), D.v (Value.bool false), D.v (Value.string { data := { toList := [] } }), D.v (Value.string { data := { toList := [] } })], some [(0, 3), (3, 3), (6, 3)], false, some [1, 2, 2, 1, 2, 2, 1, 2, 2], none⟩
def ti259 : TI := ⟨9, 120, true, false, false, none, none, [(0, 27), (3, 27), (6, 27)], some [D.v (Value.bool false), D.v (Value.string { data := { toList := [] } }), D.v (Value.string { data := { toList := [] } }), D.v (Value.bool false), D.v (Value.string { data := { toList := [] } }), D.v (Value.string { data := { toList := [] } }), D.v (Value.bool false), D.v (Value.string { data := { toList := [] } }), D.v (Value.string { data := { toList := [] } })], some [(0, 3), (3, 3), (6, 3)], false, some [1, 2, 2, 1, 2, 2, 1, 2, 2], none⟩
def ti260 : TI := ⟨1, 0, false, false, false, none, none, [], none, none, false, none, none⟩
def ti261 : TI := ⟨1, 8, false, false, false, none, none, [], some [D.v Value.nilFunc], none, false, none, none⟩
def ti262 : TI := ⟨1, 8, false, false, false, none, none, [], some [D.v Value.nilFunc], none, false, none, none⟩
def ti263 : TI := ⟨1, 8, false, false, false, none, none, [], some [D.v Value.nilFunc], none, false, none, none⟩
def ti264 : TI := ⟨1, 8, false, false, false, none, none, [], some [D.v Value.nilFunc], none, false, none, none⟩
def ti265 : TI := ⟨1, 8, false, false, false, none, none, [], some [D.v Value.nilFunc], none, false, none, none⟩
def ti266 : TI := ⟨1, 8, false, false, false, none, none, [], some [D.v Value.nilFunc], none, false, none, none⟩
def ti267 : TI := ⟨1, 8, false, false, false, none, none, [], some [D.v Value.nilFunc], none, false, none, none⟩
def ti268 : TI := ⟨1, 8, false, false, false, none, none, [], some [D.v Value.nilFunc], none, false, none, none⟩
def ti269 : TI := ⟨1, 8, false, false, false, some .i64, none, [], some [D.v (Value.int IntKind.i64 (0))], none, false, none, none⟩
def ti270 : TI := ⟨1, 0, false, false, false, none, none, [], none, none, false, none, none⟩
def ti271 : TI := ⟨1, 8, false, false, false, none, none, [], some [D.v Value.nilFunc], none, false, none, none⟩
def ti272 : TI := ⟨1, 8, false, false, false, none, none, [], some [D.v Value.nilFunc], none, false, none, none⟩
def ti273 : TI := ⟨1, 8, false, false, false, none, none, [], some [D.v Value.nilFunc], none, false, none, none⟩
def ti274 : TI := ⟨1, 8, false, false, false, none, none, [], some [D.v Value.nilFunc], none, false, none, none⟩
def ti275 : TI := ⟨1, 8, false, false, false, none, none, [], some [D.v Value.nilFunc], none, false, none, none⟩
def ti276 : TI := ⟨1, 8, false, false, false, none, none, [], some [D.v Value.nilFunc], none, false, none, none⟩
def ti277 : TI := ⟨1, 8, false, false, false, none, none, [], some [D.v Value.nilFunc], none, false, none, none⟩
def ti278 : TI := ⟨1, 8, false, false, false, none, none, [], some [D.v Value.nilFunc], none, false, none, none⟩
def ti279 : TI := ⟨1, 8, false, false, false, none, none, [], some [D.v Value.nilFunc], none, false, none, none⟩
def ti280 : TI := ⟨1, 8, false, false, false, none, none, [], some [D.v Value.nilFunc], none, false, none, none⟩
def ti281 : TI := ⟨1, 8, false, false, false, none, none, [], some [D.v Value.nilFunc], none, false, none, none⟩
def ti282 : TI := ⟨1, 8, false, false, false, none, none, [], some [D.v Value.nilFunc], none, false, none, none⟩
def ti283 : TI := ⟨1, 8, false, false, false, none, none, [], some [D.v Value.nilFunc], none, false, none, none⟩
def ti284 : TI := ⟨1, 8, false, false, false, none, none, [], some [D.v Value.nilFunc], none, false, none, none⟩
def ti285 : TI := ⟨1, 8, false, false, false, none, none, [], some [D.v Value.nilFunc], none, false, none, none⟩
def ti286 : TI := ⟨1, 8, false, false, false, none, none, [], some [D.v Value.nilFunc], none, false, none, none⟩
def ti287 : TI := ⟨13, 168, true, false, false, none, none, [(0, 46), (12, 3)], some [D.v (Value.bool false), D.v (Value.string { data := { toList := [] } }), D.v (Value.string { data := { toList := [] } }), D.v (Value.bool false), D.v (Value.string { data := { toList := [] } }), D.v (Value.string { data := { toList := [] } }), D.v (Value.bool false), D.v (Value.string { data := { toList := [] } }), D.v (Value.string { data := { toList := [] } }), D.v (Value.bool false), D.v (Value.string { data := { toList := [] } }), D.v (Value.string { data := { toList := [] } }), D.v (Value.int IntKind.i64 (0))], some [(0, 12), (12, 1)], false, some [1, 2, 2, 1, 2, 2, 1, 2, 2, 1, 2, 2, 6], none⟩
def ti288 : TI := ⟨13, 168, true, false, false, none, none, [(0, 46), (12, 3)], some [D.v (Value.bool false), D.v (Value.string { data := { toList := [] } }), D.v (Value.string { data := { toList := [] } }), D.v (Value.bool false), D.v (Value.string { data := { toList := [] } }), D.v (Value.string { data := { toList := [] } }), D.v (Value.bool false), D.v (Value.string { data := { toList := [] } }), D.v (Value.string { data := { toList := [] } }), D.v (Value.bool false), D.v (Value.string { data := { toList := [] } }), D.v (Value.string { data := { toList := [] } }), D.v (Value.int IntKind.i64 (0))], some [(0, 12), (12, 1)], true, some [1, 2, 2, 1, 2, 2, 1, 2, 2, 1, 2, 2, 6], none⟩
def ti289 : TI := ⟨1, 8, false, false, false, none, none, [], some [D.v Value.nilFunc], none, false, none, none⟩
def ti290 : TI := ⟨1, 0, false, false, false, none, none, [], none, none, false, none, none⟩
def ti291 : TI := ⟨1, 8, false, false, false, none, none, [], some [D.v Value.nilFunc], none, false, none, none⟩
def ti292 : TI := ⟨1, 24, false, false, false, none, some 294, [], some [D.v (.slice none 0 0)], none, false, none, none⟩
def ti293 : TI := ⟨4, 48, true, false, false, none, none, [(0, 27), (3, 3)], some [D.v (Value.bool false), D.v (Value.string { data := { toList := [] } }), D.v (Value.string { data := { toList := [] } }), D.v (Value.int IntKind.i64 (0))], some [(0, 3), (3, 1)], false, some [1, 2, 2, 6], none⟩
def ti294 : TI := ⟨4, 48, true, false, false, none, none, [(0, 27), (3, 3)], some [D.v (Value.bool false), D.v (Value.string { data := { toList := [] } }), D.v (Value.string { data := { toList := [] } }), D.v (Value.int IntKind.i64 (0))], some [(0, 3), (3, 1)], true, some [1, 2, 2, 6], none⟩
def ti295 : TI := ⟨1, 8, false, false, false, none, none, [], some [D.v Value.nilFunc], none, false, none, none⟩
def ti296 : TI := ⟨1, 8, false, false, false, none, none, [], some [D.v Value.nilFunc], none, false, none, none⟩
def ti297 : TI := ⟨1, 8, false, false, false, none, none, [], some [D.v Value.nilFunc], none, false, none, none⟩
def ti298 : TI := ⟨1, 8, false, false, false, none, none, [], some [D.v Value.nilFunc], none, false, none, none⟩
def ti299 : TI := ⟨1, 0, false, false, false, none, none, [], none, none, false, none, none⟩
def ti300 : TI := ⟨1, 8, false, false, false, none, none, [], some [D.v Value.nilFunc], none, false, none, none⟩
def ti301 : TI := ⟨1, 8, false, false, false, none, none, [], some [D.v Value.nilFunc], none, false, none, none⟩
def ti302 : TI := ⟨1, 8, false, false, false, none, none, [], some [D.v Value.nilFunc], none, false, none, none⟩
def ti303 : TI := ⟨1, 8, false, false, false, none, none, [], some [D.v Value.nilFunc], none, false, none, none⟩
def ti304 : TI := ⟨1, 8, false, false, false, none, none, [], some [D.v Value.nilFunc], none, false, none, none⟩
def ti305 : TI := ⟨1, 8, false, false, false, none, none, [], some [D.v Value.nilFunc], none, false, none, none⟩
def ti306 : TI := ⟨1, 8, false, false, false, none, none, [], some [D.v Value.nilFunc], none, false, none, none⟩
def ti307 : TI := ⟨1, 0, false, false, false, none, none, [], none, none, false, none, none⟩
def ti308 : TI := ⟨1, 8, false, false, false, none, none, [], some [D.v Value.nilFunc], none, false, none, none⟩
def ti309 : TI := ⟨1, 8, false, false, false, some .u64, none, [], some [D.v (Value.int IntKind.u64 (0))], none, false, none, none⟩
def ti310 : TI := ⟨1, 8, false, false, false, none, none, [], some [D.v Value.nilFunc], none, false, none, none⟩
def ti311 : TI := ⟨1, 8, false, false, false, none, none, [], some [D.v Value.nilFunc], none, false, none, none⟩
def ti312 : TI := ⟨1, 8, false, false, false, none, none, [], some [D.v Value.nilFunc], none, false, none, none⟩
def ti313 : TI := ⟨1, 8, false, false, false, none, none, [], none, none, false, none, none⟩
def ti314 : TI := ⟨1, 8, false, false, false, none, none, [], some [D.v Value.nilFunc], none, false, none, none⟩
def ti315 : TI := ⟨1, 8, false, false, false, none, none, [], some [D.v Value.nilFunc], none, false, none, none⟩
def ti316 : TI := ⟨1, 8, false, false, false, none, none, [], some [D.v Value.nilFunc], none, false, none, none⟩
def ti317 : TI := ⟨1, 8, false, false, false, none, none, [], some [D.v Value.nilFunc], none, false, none, none⟩
def ti318 : TI := ⟨1, 8, false, false, false, none, none, [], some [D.v Value.nilFunc], none, false, none, none⟩
def ti319 : TI := ⟨1, 8, false, false, false, none, none, [], some [D.v Value.nilFunc], none, false, none, none⟩
def ti320 : TI := ⟨1, 8, false, false, false, none, none, [], some [D.v Value.nilFunc], none, false, none, none⟩
def ti321 : TI := ⟨1, 8, false, false, false, none, none, [], some [D.v Value.nilFunc], none, false, none, none⟩
def ti322 : TI := ⟨1, 0, false, false, false, none, none, [], none, none, false, none, none⟩
def ti323 : TI := ⟨1, 8, false, false, false, none, none, [], some [D.v Value.nilFunc], none, false, none, none⟩
def ti324 : TI := ⟨1, 8, false, false, false, none, none, [], some [D.v Value.nilFunc], none, false, none, none⟩
def ti325 : TI := ⟨1, 8, false, false, false, none, none, [], some [D.v Value.nilFunc], none, false, none, none⟩
def ti326 : TI := ⟨1, 8, false, false, false, none, none, [], some [D.v Value.nilFunc], none, false, none, none⟩
def ti327 : TI := ⟨8, 128, true, false, false, none, none, [], some [D.v (Value.string { data := { toList := [] } }), D.v (Value.string { data := { toList := [] } }), D.v (Value.string { data := { toList := [] } }), D.v (Value.string { data := { toList := [] } }), D.v (Value.string { data := { toList := [] } }), D.v (Value.string { data := { toList := [] } }), D.v (Value.string { data := { toList := [] } }), D.v (Value.string { data := { toList := [] } })], some [(0, 1), (1, 1), (2, 1), (3, 1), (4, 1), (5, 1), (6, 1), (7, 1)], false, none, some (8, 9)⟩
def ti328 : TI := ⟨1, 8, false, false, false, none, none, [], none, none, false, none, none⟩
def ti329 : TI := ⟨1, 0, false, false, false, none, none, [], none, none, false, none, none⟩
def ti330 : TI := ⟨1, 8, false, false, false, none, none, [], some [D.v Value.nilFunc], none, false, none, none⟩
def ti331 : TI := ⟨1, 8, false, false, false, none, none, [], some [D.v Value.nilFunc], none, false, none, none⟩
def ti332 : TI := ⟨1, 8, false, false, false, none, none, [], some [D.v Value.nilFunc], none, false, none, none⟩
def ti333 : TI := ⟨1, 8, false, false, false, none, none, [], some [D.v Value.nilFunc], none, false, none, none⟩
def ti334 : TI := ⟨1, 8, false, false, false, none, none, [], some [D.v Value.nilFunc], none, false, none, none⟩
def ti335 : TI := ⟨1, 8, false, false, false, none, none, [], some [D.v Value.nilFunc], none, false, none, none⟩
def ti336 : TI := ⟨1, 8, false, false, false, none, none, [], some [D.v Value.nilFunc], none, false, none, none⟩
def ti337 : TI := ⟨1, 8, false, false, false, none, none, [], some [D.v Value.nilFunc], none, false, none, none⟩
def ti338 : TI := ⟨1, 8, false, false, false, none, none, [], some [D.v Value.nilFunc], none, false, none, none⟩
def ti339 : TI := ⟨1, 8, false, false, false, none, none, [], some [D.v Value.nilFunc], none, false, none, none⟩
def ti340 : TI := ⟨1, 8, false, false, false, none, none, [], some [D.v Value.nilFunc], none, false, none, none⟩
def ti341 : TI := ⟨1, 16, false, false, false, none, none, [], some [D.v Value.nilIface], none, false, none, none⟩
def ti342 : TI := ⟨1, 16, false, false, false, none, none, [], some [D.v Value.nilIface], none, false, none, none⟩
def ti343 : TI := ⟨1, 8, false, false, false, none, none, [], some [D.v Value.nilFunc], none, false, none, none⟩
def ti344 : TI := ⟨1, 8, false, false, false, none, none, [], some [D.v Value.nilFunc], none, false, none, none⟩
def ti345 : TI := ⟨1, 8, false, false, false, none, none, [], some [D.v Value.nilFunc], none, false, none, none⟩
def ti346 : TI := ⟨1, 8, false, false, false, none, none, [], none, none, false, none, none⟩
def ti347 : TI := ⟨4, 40, true, false, false, none, none, [(0, 17), (1, 17), (2, 17), (3, 9)], none, none, false, none, none⟩
def ti348 : TI := ⟨4, 40, true, false, false, none, none, [(0, 17), (1, 17), (2, 17), (3, 9)], none, none, false, none, none⟩
def ti349 : TI := ⟨0, 0, true, false, false, none, none, [], some [], some [], false, none, some (0, 16)⟩
def ti350 : TI := ⟨0, 0, true, false, false, none, none, [(0, 349)], some [], some [(0, 0)], false, none, none⟩
def ti351 : TI := ⟨0, 0, true, false, false, none, none, [(0, 349)], some [], some [(0, 0)], false, none, none⟩
def ti352 : TI := ⟨1, 8, false, false, false, none, none, [], some [D.v Value.nilFunc], none, false, none, none⟩
def ti353 : TI := ⟨1, 1, false, false, false, some .u8, none, [], some [D.v (Value.int IntKind.u8 (0))], none, false, none, none⟩
def ti354 : TI := ⟨1, 1, false, false, false, some .u8, none, [], some [D.v (Value.int IntKind.u8 (0))], none, false, none, none⟩
def ti355 : TI := ⟨1, 8, false, false, false, none, none, [], some [D.v Value.nilFunc], none, false, none, none⟩
def ti356 : TI := ⟨1, 8, false, false, false, none, none, [], none, none, false, none, none⟩
def ti357 : TI := ⟨1, 4, false, false, false, some .i32, none, [], some [D.v (Value.int IntKind.i32 (0))], none, false, none, none⟩
def ti358 : TI := ⟨1, 4, false, false, false, some .i32, none, [], some [D.v (Value.int IntKind.i32 (0))], none, false, none, none⟩
def ti359 : TI := ⟨11, 48, true, false, false, none, none, [], none, none, false, none, none⟩
def ti360 : TI := ⟨11, 48, true, false, false, none, none, [], none, none, false, none, none⟩
def ti361 : TI := ⟨1, 16, true, false, false, none, none, [(0, 9)], some [D.v (Value.string { data := { toList := [] } })], some [(0, 1)], false, some [2], none⟩
def ti362 : TI := ⟨1, 16, true, false, false, none, none, [(0, 9)], some [D.v (Value.string { data := { toList := [] } })], some [(0, 1)], false, some [2], none⟩
def ti363 : TI := ⟨1, 8, false, false, false, none, none, [], none, none, false, none, none⟩
def tbl : Tb := [[some ti0, some ti1, some ti2, some ti3, some ti4, some ti5, some ti6, some ti7, some ti8, some ti9, some ti10, some ti11, some ti12, some ti13, some ti14, some ti15],
  [some ti16, some ti17, some ti18, some ti19, some ti20, some ti21, some ti22, some ti23, some ti24, some ti25, some ti26, some ti27, some ti28, some ti29, some ti30, some ti31],
  [some ti32, some ti33, some ti34, some ti35, some ti36, some ti37, some ti38, some ti39, some ti40, some ti41, some ti42, some ti43, some ti44, some ti45, some ti46, some ti47],
  [some ti48, some ti49, some ti50, some ti51, some ti52, some ti53, some ti54, some ti55, some ti56, some ti57, some ti58, some ti59, some ti60, some ti61, some ti62, some ti63],
  [some ti64, some ti65, some ti66, some ti67, some ti68, some ti69, some ti70, some ti71, some ti72, some ti73, some ti74, some ti75, some ti76, some ti77, some ti78, some ti79],
  [some ti80, some ti81, some ti82, some ti83, some ti84, some ti85, some ti86, some ti87, some ti88, some ti89, some ti90, some ti91, some ti92, some ti93, some ti94, some ti95],
  [some ti96, some ti97, some ti98, some ti99, some ti100, some ti101, some ti102, some ti103, some ti104, some ti105, some ti106, some ti107, some ti108, some ti109, some ti110, some ti111],
  [some ti112, some ti113, some ti114, some ti115, some ti116, some ti117, some ti118, some ti119, some ti120, some ti121, some ti122, some ti123, some ti124, some ti125, some ti126, some ti127],
  [some ti128, some ti129, some ti130, some ti131, some ti132, some ti133, some ti134, some ti135, some ti136, some ti137, some ti138, some ti139, some ti140, some ti141, some ti142, some ti143],
  [some ti144, some ti145, some ti146, some ti147, some ti148, some ti149, some ti150, some ti151, some ti152, some ti153, some ti154, some ti155, some ti156, some ti157, some ti158, some ti159],
  [some ti160, some ti161, some ti162, some ti163, some ti164, some ti165, some ti166, some ti167, some ti168, some ti169, some ti170, some ti171, some ti172, some ti173, some ti174, some ti175],
  [some ti176, some ti177, some ti178, some ti179, some ti180, some ti181, some ti182, some ti183, some ti184, some ti185, some ti186, some ti187, some ti188, some ti189, some ti190, some ti191],
  [some ti192, some ti193, some ti194, some ti195, some ti196, some ti197, some ti198, some ti199, some ti200, some ti201, some ti202, some ti203, some ti204, some ti205, some ti206, some ti207],
  [some ti208, some ti209, some ti210, some ti211, some ti212, some ti213, some ti214, some ti215, some ti216, some ti217, some ti218, some ti219, some ti220, some ti221, some ti222, some ti223],
  [some ti224, some ti225, some ti226, some ti227, some ti228, some ti229, some ti230, some ti231, some ti232, some ti233, some ti234, some ti235, some ti236, some ti237, some ti238, some ti239],
  [some ti240, some ti241, some ti242, some ti243, some ti244, some ti245, some ti246, some ti247, some ti248, some ti249, some ti250, some ti251, some ti252, some ti253, some ti254, some ti255],
  [some ti256, some ti257, some ti258, some ti259, some ti260, some ti261, some ti262, some ti263, some ti264, some ti265, some ti266, some ti267, some ti268, some ti269, some ti270, some ti271],
  [some ti272, some ti273, some ti274, some ti275, some ti276, some ti277, some ti278, some ti279, some ti280, some ti281, some ti282, some ti283, some ti284, some ti285, some ti286, some ti287],
  [some ti288, some ti289, some ti290, some ti291, some ti292, some ti293, some ti294, some ti295, some ti296, some ti297, some ti298, some ti299, some ti300, some ti301, some ti302, some ti303],
  [some ti304, some ti305, some ti306, some ti307, some ti308, some ti309, some ti310, some ti311, some ti312, some ti313, some ti314, some ti315, some ti316, some ti317, some ti318, some ti319],
  [some ti320, some ti321, some ti322, some ti323, some ti324, some ti325, some ti326, some ti327, some ti328, some ti329, some ti330, some ti331, some ti332, some ti333, some ti334, some ti335],
  [some ti336, some ti337, some ti338, some ti339, some ti340, some ti341, some ti342, some ti343, some ti344, some ti345, some ti346, some ti347, some ti348, some ti349, some ti350, some ti351],
  [some ti352, some ti353, some ti354, some ti355, some ti356, some ti357, some ti358, some ti359, some ti360, some ti361, some ti362, some ti363],
  [],
  [],
  [],
  []]
theorem tok0 : TIok Tryz.prog 0 ti0 := ⟨by kernel_rfl, by kernel_rfl, by kernel_rfl, by kernel_rfl, (fun h => nomatch h), (fun h => nomatch h), .inl rfl, .inl rfl, .inl rfl, .inl rfl, .inl rfl, (fun h => nomatch h), (fun _ h => nomatch h), .inl rfl⟩
theorem tok1 : TIok Tryz.prog 1 ti1 := ⟨by kernel_rfl, by kernel_rfl, by kernel_rfl, by kernel_rfl, (fun h => nomatch h), (fun h => nomatch h), .inl rfl, .inl rfl, .inl rfl, .inr (by kernel_rfl), .inl rfl, (fun h => nomatch h), (fun _ h => nomatch h), .inl rfl⟩
theorem tok2 : TIok Tryz.prog 2 ti2 := ⟨by kernel_rfl, by kernel_rfl, by kernel_rfl, by kernel_rfl, (fun h => nomatch h), (fun h => nomatch h), .inr (by kernel_rfl), .inl rfl, .inl rfl, .inr (by kernel_rfl), .inl rfl, (fun h => nomatch h), (fun _ h => nomatch h), .inl rfl⟩
theorem tok3 : TIok Tryz.prog 3 ti3 := ⟨by kernel_rfl, by kernel_rfl, by kernel_rfl, by kernel_rfl, (fun h => nomatch h), (fun h => nomatch h), .inr (by kernel_rfl), .inl rfl, .inl rfl, .inr (by kernel_rfl), .inl rfl, (fun _ => elemOk_of (by kernel_rfl)), (fun _ h => nomatch h), .inl rfl⟩
theorem tok4 : TIok Tryz.prog 4 ti4 := ⟨by kernel_rfl, by kernel_rfl, by kernel_rfl, by kernel_rfl, (fun h => nomatch h), (fun _ => by kernel_rfl), .inl rfl, .inl rfl, .inl rfl, .inr (by kernel_rfl), .inl rfl, (fun _ => elemOk_of (by kernel_rfl)), (fun _ h => nomatch h), .inl rfl⟩
theorem tok5 : TIok Tryz.prog 5 ti5 := ⟨by kernel_rfl, by kernel_rfl, by kernel_rfl, by kernel_rfl, (fun h => nomatch h), (fun h => nomatch h), .inr (by kernel_rfl), .inl rfl, .inl rfl, .inr (by kernel_rfl), .inl rfl, (fun _ => elemOk_of (by kernel_rfl)), (fun _ h => nomatch h), .inl rfl⟩
theorem tok6 : TIok Tryz.prog 6 ti6 := ⟨by kernel_rfl, by kernel_rfl, by kernel_rfl, by kernel_rfl, (fun h => nomatch h), (fun h => nomatch h), .inr (by kernel_rfl), .inl rfl, .inl rfl, .inr (by kernel_rfl), .inl rfl, (fun h => nomatch h), (fun _ h => nomatch h), .inl rfl⟩
theorem tok7 : TIok Tryz.prog 7 ti7 := ⟨by kernel_rfl, by kernel_rfl, by kernel_rfl, by kernel_rfl, (fun h => nomatch h), (fun h => nomatch h), .inl rfl, .inl rfl, .inr (fields_of (by kernel_rfl)), .inr (by kernel_rfl), .inr (by kernel_rfl), (fun h => nomatch h), (fun ks h => Option.some.inj h ▸ structEq_of (by kernel_rfl) (by kernel_rfl) (by kernel_rfl)), .inl rfl⟩
theorem tok8 : TIok Tryz.prog 8 ti8 := ⟨by kernel_rfl, by kernel_rfl, by kernel_rfl, by kernel_rfl, (fun h => nomatch h), (fun h => nomatch h), .inl rfl, .inl rfl, .inr (fields_of (by kernel_rfl)), .inr (by kernel_rfl), .inr (by kernel_rfl), (fun h => nomatch h), (fun ks h => Option.some.inj h ▸ structEq_of (by kernel_rfl) (by kernel_rfl) (by kernel_rfl)), .inl rfl⟩
theorem tok9 : TIok Tryz.prog 9 ti9 := ⟨by kernel_rfl, by kernel_rfl, by kernel_rfl, by kernel_rfl, (fun _ => by kernel_rfl), (fun h => nomatch h), .inl rfl, .inl rfl, .inl rfl, .inr (by kernel_rfl), .inl rfl, (fun h => nomatch h), (fun _ h => nomatch h), .inl rfl⟩
theorem tok10 : TIok Tryz.prog 10 ti10 := ⟨by kernel_rfl, by kernel_rfl, by kernel_rfl, by kernel_rfl, (fun _ => by kernel_rfl), (fun h => nomatch h), .inl rfl, .inl rfl, .inl rfl, .inr (by kernel_rfl), .inl rfl, (fun h => nomatch h), (fun _ h => nomatch h), .inl rfl⟩
theorem tok11 : TIok Tryz.prog 11 ti11 := ⟨by kernel_rfl, by kernel_rfl, by kernel_rfl, by kernel_rfl, (fun _ => by kernel_rfl), (fun h => nomatch h), .inl rfl, .inl rfl, .inl rfl, .inr (by kernel_rfl), .inl rfl, (fun h => nomatch h), (fun _ h => nomatch h), .inl rfl⟩
theorem tok12 : TIok Tryz.prog 12 ti12 := ⟨by kernel_rfl, by kernel_rfl, by kernel_rfl, by kernel_rfl, (fun h => nomatch h), (fun h => nomatch h), .inr (by kernel_rfl), .inl rfl, .inl rfl, .inr (by kernel_rfl), .inl rfl, (fun h => nomatch h), (fun _ h => nomatch h), .inl rfl⟩
theorem tok13 : TIok Tryz.prog 13 ti13 := ⟨by kernel_rfl, by kernel_rfl, by kernel_rfl, by kernel_rfl, (fun h => nomatch h), (fun h => nomatch h), .inl rfl, .inl rfl, .inr (fields_of (by kernel_rfl)), .inr (by kernel_rfl), .inr (by kernel_rfl), (fun h => nomatch h), (fun _ h => nomatch h), .inl rfl⟩
theorem tok14 : TIok Tryz.prog 14 ti14 := ⟨by kernel_rfl, by kernel_rfl, by kernel_rfl, by kernel_rfl, (fun h => nomatch h), (fun h => nomatch h), .inl rfl, .inl rfl, .inr (fields_of (by kernel_rfl)), .inr (by kernel_rfl), .inr (by kernel_rfl), (fun h => nomatch h), (fun _ h => nomatch h), .inl rfl⟩
theorem tok15 : TIok Tryz.prog 15 ti15 := ⟨by kernel_rfl, by kernel_rfl, by kernel_rfl, by kernel_rfl, (fun h => nomatch h), (fun h => nomatch h), .inl rfl, .inl rfl, .inl rfl, .inl rfl, .inl rfl, (fun h => nomatch h), (fun _ h => nomatch h), .inl rfl⟩
theorem tok16 : TIok Tryz.prog 16 ti16 := ⟨by kernel_rfl, by kernel_rfl, by kernel_rfl, by kernel_rfl, (fun h => nomatch h), (fun h => nomatch h), .inl rfl, .inl rfl, .inl rfl, .inl rfl, .inl rfl, (fun h => nomatch h), (fun _ h => nomatch h), .inl rfl⟩
theorem tok17 : TIok Tryz.prog 17 ti17 := ⟨by kernel_rfl, by kernel_rfl, by kernel_rfl, by kernel_rfl, (fun h => nomatch h), (fun h => nomatch h), .inl rfl, .inl rfl, .inl rfl, .inl rfl, .inl rfl, (fun h => nomatch h), (fun _ h => nomatch h), .inl rfl⟩
theorem tok18 : TIok Tryz.prog 18 ti18 := ⟨by kernel_rfl, by kernel_rfl, by kernel_rfl, by kernel_rfl, (fun h => nomatch h), (fun h => nomatch h), .inl rfl, .inl rfl, .inr (fields_of (by kernel_rfl)), .inl rfl, .inl rfl, (fun h => nomatch h), (fun _ h => nomatch h), .inl rfl⟩
theorem tok19 : TIok Tryz.prog 19 ti19 := ⟨by kernel_rfl, by kernel_rfl, by kernel_rfl, by kernel_rfl, (fun h => nomatch h), (fun h => nomatch h), .inl rfl, .inl rfl, .inr (fields_of (by kernel_rfl)), .inl rfl, .inl rfl, (fun h => nomatch h), (fun _ h => nomatch h), .inl rfl⟩
theorem tok20 : TIok Tryz.prog 20 ti20 := ⟨by kernel_rfl, by kernel_rfl, by kernel_rfl, by kernel_rfl, (fun h => nomatch h), (fun h => nomatch h), .inl rfl, .inl rfl, .inl rfl, .inr (by kernel_rfl), .inl rfl, (fun h => nomatch h), (fun _ h => nomatch h), .inl rfl⟩
theorem tok21 : TIok Tryz.prog 21 ti21 := ⟨by kernel_rfl, by kernel_rfl, by kernel_rfl, by kernel_rfl, (fun h => nomatch h), (fun h => nomatch h), .inr (by kernel_rfl), .inl rfl, .inl rfl, .inr (by kernel_rfl), .inl rfl, (fun h => nomatch h), (fun _ h => nomatch h), .inl rfl⟩
theorem tok22 : TIok Tryz.prog 22 ti22 := ⟨by kernel_rfl, by kernel_rfl, by kernel_rfl, by kernel_rfl, (fun h => nomatch h), (fun h => nomatch h), .inl rfl, .inr (by kernel_rfl), .inl rfl, .inr (by kernel_rfl), .inl rfl, (fun _ => elemOk_of (by kernel_rfl)), (fun _ h => nomatch h), .inl rfl⟩
theorem tok23 : TIok Tryz.prog 23 ti23 := ⟨by kernel_rfl, by kernel_rfl, by kernel_rfl, by kernel_rfl, (fun h => nomatch h), (fun h => nomatch h), .inl rfl, .inr (by kernel_rfl), .inl rfl, .inr (by kernel_rfl), .inl rfl, (fun h => nomatch h), (fun _ h => nomatch h), .inl rfl⟩
theorem tok24 : TIok Tryz.prog 24 ti24 := ⟨by kernel_rfl, by kernel_rfl, by kernel_rfl, by kernel_rfl, (fun h => nomatch h), (fun h => nomatch h), .inl rfl, .inl rfl, .inr (fields_of (by kernel_rfl)), .inr (by kernel_rfl), .inr (by kernel_rfl), (fun h => nomatch h), (fun _ h => nomatch h), .inl rfl⟩
theorem tok25 : TIok Tryz.prog 25 ti25 := ⟨by kernel_rfl, by kernel_rfl, by kernel_rfl, by kernel_rfl, (fun h => nomatch h), (fun h => nomatch h), .inl rfl, .inl rfl, .inr (fields_of (by kernel_rfl)), .inr (by kernel_rfl), .inr (by kernel_rfl), (fun h => nomatch h), (fun _ h => nomatch h), .inl rfl⟩
theorem tok26 : TIok Tryz.prog 26 ti26 := ⟨by kernel_rfl, by kernel_rfl, by kernel_rfl, by kernel_rfl, (fun h => nomatch h), (fun h => nomatch h), .inl rfl, .inl rfl, .inr (fields_of (by kernel_rfl)), .inr (by kernel_rfl), .inr (by kernel_rfl), (fun h => nomatch h), (fun ks h => Option.some.inj h ▸ structEq_of (by kernel_rfl) (by kernel_rfl) (by kernel_rfl)), .inl rfl⟩
theorem tok27 : TIok Tryz.prog 27 ti27 := ⟨by kernel_rfl, by kernel_rfl, by kernel_rfl, by kernel_rfl, (fun h => nomatch h), (fun h => nomatch h), .inl rfl, .inl rfl, .inr (fields_of (by kernel_rfl)), .inr (by kernel_rfl), .inr (by kernel_rfl), (fun _ => elemOk_of (by kernel_rfl)), (fun ks h => Option.some.inj h ▸ structEq_of (by kernel_rfl) (by kernel_rfl) (by kernel_rfl)), .inl rfl⟩
theorem tok28 : TIok Tryz.prog 28 ti28 := ⟨by kernel_rfl, by kernel_rfl, by kernel_rfl, by kernel_rfl, (fun h => nomatch h), (fun h => nomatch h), .inl rfl, .inl rfl, .inr (fields_of (by kernel_rfl)), .inr (by kernel_rfl), .inr (by kernel_rfl), (fun h => nomatch h), (fun ks h => Option.some.inj h ▸ structEq_of (by kernel_rfl) (by kernel_rfl) (by kernel_rfl)), .inl rfl⟩
theorem tok29 : TIok Tryz.prog 29 ti29 := ⟨by kernel_rfl, by kernel_rfl, by kernel_rfl, by kernel_rfl, (fun h => nomatch h), (fun h => nomatch h), .inl rfl, .inl rfl, .inr (fields_of (by kernel_rfl)), .inr (by kernel_rfl), .inr (by kernel_rfl), (fun _ => elemOk_of (by kernel_rfl)), (fun ks h => Option.some.inj h ▸ structEq_of (by kernel_rfl) (by kernel_rfl) (by kernel_rfl)), .inl rfl⟩
theorem tok30 : TIok Tryz.prog 30 ti30 := ⟨by kernel_rfl, by kernel_rfl, by kernel_rfl, by kernel_rfl, (fun h => nomatch h), (fun h => nomatch h), .inl rfl, .inl rfl, .inr (fields_of (by kernel_rfl)), .inr (by kernel_rfl), .inr (by kernel_rfl), (fun h => nomatch h), (fun ks h => Option.some.inj h ▸ structEq_of (by kernel_rfl) (by kernel_rfl) (by kernel_rfl)), .inl rfl⟩
theorem tok31 : TIok Tryz.prog 31 ti31 := ⟨by kernel_rfl, by kernel_rfl, by kernel_rfl, by kernel_rfl, (fun h => nomatch h), (fun h => nomatch h), .inl rfl, .inl rfl, .inr (fields_of (by kernel_rfl)), .inr (by kernel_rfl), .inr (by kernel_rfl), (fun h => nomatch h), (fun ks h => Option.some.inj h ▸ structEq_of (by kernel_rfl) (by kernel_rfl) (by kernel_rfl)), .inl rfl⟩
theorem tok32 : TIok Tryz.prog 32 ti32 := ⟨by kernel_rfl, by kernel_rfl, by kernel_rfl, by kernel_rfl, (fun h => nomatch h), (fun h => nomatch h), .inl rfl, .inl rfl, .inl rfl, .inr (by kernel_rfl), .inl rfl, (fun h => nomatch h), (fun _ h => nomatch h), .inl rfl⟩
theorem tok33 : TIok Tryz.prog 33 ti33 := ⟨by kernel_rfl, by kernel_rfl, by kernel_rfl, by kernel_rfl, (fun h => nomatch h), (fun h => nomatch h), .inl rfl, .inl rfl, .inl rfl, .inr (by kernel_rfl), .inl rfl, (fun h => nomatch h), (fun _ h => nomatch h), .inl rfl⟩
theorem tok34 : TIok Tryz.prog 34 ti34 := ⟨by kernel_rfl, by kernel_rfl, by kernel_rfl, by kernel_rfl, (fun h => nomatch h), (fun h => nomatch h), .inl rfl, .inr (by kernel_rfl), .inl rfl, .inr (by kernel_rfl), .inl rfl, (fun _ => elemOk_of (by kernel_rfl)), (fun _ h => nomatch h), .inl rfl⟩
theorem tok35 : TIok Tryz.prog 35 ti35 := ⟨by kernel_rfl, by kernel_rfl, by kernel_rfl, by kernel_rfl, (fun h => nomatch h), (fun h => nomatch h), .inr (by kernel_rfl), .inl rfl, .inl rfl, .inr (by kernel_rfl), .inl rfl, (fun h => nomatch h), (fun _ h => nomatch h), .inl rfl⟩
theorem tok36 : TIok Tryz.prog 36 ti36 := ⟨by kernel_rfl, by kernel_rfl, by kernel_rfl, by kernel_rfl, (fun h => nomatch h), (fun h => nomatch h), .inl rfl, .inl rfl, .inl rfl, .inl rfl, .inl rfl, (fun h => nomatch h), (fun _ h => nomatch h), .inl rfl⟩
theorem tok37 : TIok Tryz.prog 37 ti37 := ⟨by kernel_rfl, by kernel_rfl, by kernel_rfl, by kernel_rfl, (fun h => nomatch h), (fun h => nomatch h), .inl rfl, .inl rfl, .inl rfl, .inr (by kernel_rfl), .inl rfl, (fun h => nomatch h), (fun _ h => nomatch h), .inl rfl⟩
theorem tok38 : TIok Tryz.prog 38 ti38 := ⟨by kernel_rfl, by kernel_rfl, by kernel_rfl, by kernel_rfl, (fun h => nomatch h), (fun h => nomatch h), .inl rfl, .inl rfl, .inl rfl, .inl rfl, .inl rfl, (fun h => nomatch h), (fun _ h => nomatch h), .inl rfl⟩
theorem tok39 : TIok Tryz.prog 39 ti39 := ⟨by kernel_rfl, by kernel_rfl, by kernel_rfl, by kernel_rfl, (fun h => nomatch h), (fun h => nomatch h), .inl rfl, .inl rfl, .inl rfl, .inr (by kernel_rfl), .inl rfl, (fun h => nomatch h), (fun _ h => nomatch h), .inl rfl⟩
theorem tok40 : TIok Tryz.prog 40 ti40 := ⟨by kernel_rfl, by kernel_rfl, by kernel_rfl, by kernel_rfl, (fun h => nomatch h), (fun h => nomatch h), .inl rfl, .inl rfl, .inl rfl, .inr (by kernel_rfl), .inl rfl, (fun h => nomatch h), (fun _ h => nomatch h), .inl rfl⟩
theorem tok41 : TIok Tryz.prog 41 ti41 := ⟨by kernel_rfl, by kernel_rfl, by kernel_rfl, by kernel_rfl, (fun h => nomatch h), (fun h => nomatch h), .inl rfl, .inl rfl, .inl rfl, .inr (by kernel_rfl), .inl rfl, (fun h => nomatch h), (fun _ h => nomatch h), .inl rfl⟩
theorem tok42 : TIok Tryz.prog 42 ti42 := ⟨by kernel_rfl, by kernel_rfl, by kernel_rfl, by kernel_rfl, (fun h => nomatch h), (fun h => nomatch h), .inl rfl, .inl rfl, .inl rfl, .inr (by kernel_rfl), .inl rfl, (fun h => nomatch h), (fun _ h => nomatch h), .inl rfl⟩
theorem tok43 : TIok Tryz.prog 43 ti43 := ⟨by kernel_rfl, by kernel_rfl, by kernel_rfl, by kernel_rfl, (fun h => nomatch h), (fun h => nomatch h), .inl rfl, .inl rfl, .inl rfl, .inr (by kernel_rfl), .inl rfl, (fun h => nomatch h), (fun _ h => nomatch h), .inl rfl⟩
theorem tok44 : TIok Tryz.prog 44 ti44 := ⟨by kernel_rfl, by kernel_rfl, by kernel_rfl, by kernel_rfl, (fun h => nomatch h), (fun h => nomatch h), .inl rfl, .inl rfl, .inl rfl, .inr (by kernel_rfl), .inl rfl, (fun h => nomatch h), (fun _ h => nomatch h), .inl rfl⟩
theorem tok45 : TIok Tryz.prog 45 ti45 := ⟨by kernel_rfl, by kernel_rfl, by kernel_rfl, by kernel_rfl, (fun h => nomatch h), (fun h => nomatch h), .inl rfl, .inl rfl, .inr (fields_of (by kernel_rfl)), .inr (by kernel_rfl), .inr (by kernel_rfl), (fun h => nomatch h), (fun ks h => Option.some.inj h ▸ structEq_of (by kernel_rfl) (by kernel_rfl) (by kernel_rfl)), .inl rfl⟩
theorem tok46 : TIok Tryz.prog 46 ti46 := ⟨by kernel_rfl, by kernel_rfl, by kernel_rfl, by kernel_rfl, (fun h => nomatch h), (fun h => nomatch h), .inl rfl, .inl rfl, .inr (fields_of (by kernel_rfl)), .inr (by kernel_rfl), .inr (by kernel_rfl), (fun _ => elemOk_of (by kernel_rfl)), (fun ks h => Option.some.inj h ▸ structEq_of (by kernel_rfl) (by kernel_rfl) (by kernel_rfl)), .inl rfl⟩
theorem tok47 : TIok Tryz.prog 47 ti47 := ⟨by kernel_rfl, by kernel_rfl, by kernel_rfl, by kernel_rfl, (fun h => nomatch h), (fun h => nomatch h), .inl rfl, .inr (by kernel_rfl), .inl rfl, .inr (by kernel_rfl), .inl rfl, (fun _ => elemOk_of (by kernel_rfl)), (fun _ h => nomatch h), .inl rfl⟩
theorem tok48 : TIok Tryz.prog 48 ti48 := ⟨by kernel_rfl, by kernel_rfl, by kernel_rfl, by kernel_rfl, (fun h => nomatch h), (fun h => nomatch h), .inl rfl, .inl rfl, .inl rfl, .inl rfl, .inl rfl, (fun h => nomatch h), (fun _ h => nomatch h), .inl rfl⟩
theorem tok49 : TIok Tryz.prog 49 ti49 := ⟨by kernel_rfl, by kernel_rfl, by kernel_rfl, by kernel_rfl, (fun h => nomatch h), (fun h => nomatch h), .inl rfl, .inl rfl, .inl rfl, .inr (by kernel_rfl), .inl rfl, (fun h => nomatch h), (fun _ h => nomatch h), .inl rfl⟩
theorem tok50 : TIok Tryz.prog 50 ti50 := ⟨by kernel_rfl, by kernel_rfl, by kernel_rfl, by kernel_rfl, (fun h => nomatch h), (fun h => nomatch h), .inl rfl, .inl rfl, .inl rfl, .inl rfl, .inl rfl, (fun h => nomatch h), (fun _ h => nomatch h), .inl rfl⟩
theorem tok51 : TIok Tryz.prog 51 ti51 := ⟨by kernel_rfl, by kernel_rfl, by kernel_rfl, by kernel_rfl, (fun h => nomatch h), (fun h => nomatch h), .inl rfl, .inl rfl, .inl rfl, .inr (by kernel_rfl), .inl rfl, (fun h => nomatch h), (fun _ h => nomatch h), .inl rfl⟩
theorem tok52 : TIok Tryz.prog 52 ti52 := ⟨by kernel_rfl, by kernel_rfl, by kernel_rfl, by kernel_rfl, (fun h => nomatch h), (fun h => nomatch h), .inl rfl, .inl rfl, .inl rfl, .inr (by kernel_rfl), .inl rfl, (fun h => nomatch h), (fun _ h => nomatch h), .inl rfl⟩
theorem tok53 : TIok Tryz.prog 53 ti53 := ⟨by kernel_rfl, by kernel_rfl, by kernel_rfl, by kernel_rfl, (fun h => nomatch h), (fun h => nomatch h), .inl rfl, .inl rfl, .inl rfl, .inr (by kernel_rfl), .inl rfl, (fun h => nomatch h), (fun _ h => nomatch h), .inl rfl⟩
theorem tok54 : TIok Tryz.prog 54 ti54 := ⟨by kernel_rfl, by kernel_rfl, by kernel_rfl, by kernel_rfl, (fun h => nomatch h), (fun h => nomatch h), .inl rfl, .inl rfl, .inl rfl, .inl rfl, .inl rfl, (fun h => nomatch h), (fun _ h => nomatch h), .inl rfl⟩
theorem tok55 : TIok Tryz.prog 55 ti55 := ⟨by kernel_rfl, by kernel_rfl, by kernel_rfl, by kernel_rfl, (fun h => nomatch h), (fun h => nomatch h), .inl rfl, .inl rfl, .inl rfl, .inr (by kernel_rfl), .inl rfl, (fun h => nomatch h), (fun _ h => nomatch h), .inl rfl⟩
theorem tok56 : TIok Tryz.prog 56 ti56 := ⟨by kernel_rfl, by kernel_rfl, by kernel_rfl, by kernel_rfl, (fun h => nomatch h), (fun h => nomatch h), .inl rfl, .inl rfl, .inl rfl, .inr (by kernel_rfl), .inl rfl, (fun h => nomatch h), (fun _ h => nomatch h), .inl rfl⟩
theorem tok57 : TIok Tryz.prog 57 ti57 := ⟨by kernel_rfl, by kernel_rfl, by kernel_rfl, by kernel_rfl, (fun h => nomatch h), (fun h => nomatch h), .inl rfl, .inl rfl, .inl rfl, .inr (by kernel_rfl), .inl rfl, (fun h => nomatch h), (fun _ h => nomatch h), .inl rfl⟩
theorem tok58 : TIok Tryz.prog 58 ti58 := ⟨by kernel_rfl, by kernel_rfl, by kernel_rfl, by kernel_rfl, (fun h => nomatch h), (fun h => nomatch h), .inl rfl, .inr (by kernel_rfl), .inl rfl, .inr (by kernel_rfl), .inl rfl, (fun h => nomatch h), (fun _ h => nomatch h), .inl rfl⟩
theorem tok59 : TIok Tryz.prog 59 ti59 := ⟨by kernel_rfl, by kernel_rfl, by kernel_rfl, by kernel_rfl, (fun h => nomatch h), (fun h => nomatch h), .inl rfl, .inl rfl, .inl rfl, .inl rfl, .inl rfl, (fun h => nomatch h), (fun _ h => nomatch h), .inl rfl⟩
theorem tok60 : TIok Tryz.prog 60 ti60 := ⟨by kernel_rfl, by kernel_rfl, by kernel_rfl, by kernel_rfl, (fun h => nomatch h), (fun h => nomatch h), .inl rfl, .inl rfl, .inl rfl, .inr (by kernel_rfl), .inl rfl, (fun h => nomatch h), (fun _ h => nomatch h), .inl rfl⟩
theorem tok61 : TIok Tryz.prog 61 ti61 := ⟨by kernel_rfl, by kernel_rfl, by kernel_rfl, by kernel_rfl, (fun h => nomatch h), (fun h => nomatch h), .inl rfl, .inl rfl, .inl rfl, .inr (by kernel_rfl), .inl rfl, (fun h => nomatch h), (fun _ h => nomatch h), .inl rfl⟩
theorem tok62 : TIok Tryz.prog 62 ti62 := ⟨by kernel_rfl, by kernel_rfl, by kernel_rfl, by kernel_rfl, (fun h => nomatch h), (fun h => nomatch h), .inl rfl, .inl rfl, .inl rfl, .inr (by kernel_rfl), .inl rfl, (fun h => nomatch h), (fun _ h => nomatch h), .inl rfl⟩
theorem tok63 : TIok Tryz.prog 63 ti63 := ⟨by kernel_rfl, by kernel_rfl, by kernel_rfl, by kernel_rfl, (fun h => nomatch h), (fun h => nomatch h), .inl rfl, .inl rfl, .inl rfl, .inr (by kernel_rfl), .inl rfl, (fun h => nomatch h), (fun _ h => nomatch h), .inl rfl⟩
theorem tok64 : TIok Tryz.prog 64 ti64 := ⟨by kernel_rfl, by kernel_rfl, by kernel_rfl, by kernel_rfl, (fun h => nomatch h), (fun h => nomatch h), .inl rfl, .inl rfl, .inl rfl, .inr (by kernel_rfl), .inl rfl, (fun h => nomatch h), (fun _ h => nomatch h), .inl rfl⟩
theorem tok65 : TIok Tryz.prog 65 ti65 := ⟨by kernel_rfl, by kernel_rfl, by kernel_rfl, by kernel_rfl, (fun h => nomatch h), (fun h => nomatch h), .inl rfl, .inl rfl, .inl rfl, .inr (by kernel_rfl), .inl rfl, (fun h => nomatch h), (fun _ h => nomatch h), .inl rfl⟩
theorem tok66 : TIok Tryz.prog 66 ti66 := ⟨by kernel_rfl, by kernel_rfl, by kernel_rfl, by kernel_rfl, (fun h => nomatch h), (fun h => nomatch h), .inl rfl, .inl rfl, .inl rfl, .inr (by kernel_rfl), .inl rfl, (fun h => nomatch h), (fun _ h => nomatch h), .inl rfl⟩
theorem tok67 : TIok Tryz.prog 67 ti67 := ⟨by kernel_rfl, by kernel_rfl, by kernel_rfl, by kernel_rfl, (fun h => nomatch h), (fun h => nomatch h), .inl rfl, .inl rfl, .inl rfl, .inr (by kernel_rfl), .inl rfl, (fun h => nomatch h), (fun _ h => nomatch h), .inl rfl⟩
theorem tok68 : TIok Tryz.prog 68 ti68 := ⟨by kernel_rfl, by kernel_rfl, by kernel_rfl, by kernel_rfl, (fun h => nomatch h), (fun h => nomatch h), .inl rfl, .inl rfl, .inl rfl, .inr (by kernel_rfl), .inl rfl, (fun h => nomatch h), (fun _ h => nomatch h), .inl rfl⟩
theorem tok69 : TIok Tryz.prog 69 ti69 := ⟨by kernel_rfl, by kernel_rfl, by kernel_rfl, by kernel_rfl, (fun h => nomatch h), (fun h => nomatch h), .inl rfl, .inl rfl, .inl rfl, .inr (by kernel_rfl), .inl rfl, (fun h => nomatch h), (fun _ h => nomatch h), .inl rfl⟩
theorem tok70 : TIok Tryz.prog 70 ti70 := ⟨by kernel_rfl, by kernel_rfl, by kernel_rfl, by kernel_rfl, (fun h => nomatch h), (fun h => nomatch h), .inl rfl, .inl rfl, .inl rfl, .inr (by kernel_rfl), .inl rfl, (fun h => nomatch h), (fun _ h => nomatch h), .inl rfl⟩
theorem tok71 : TIok Tryz.prog 71 ti71 := ⟨by kernel_rfl, by kernel_rfl, by kernel_rfl, by kernel_rfl, (fun h => nomatch h), (fun h => nomatch h), .inl rfl, .inr (by kernel_rfl), .inl rfl, .inr (by kernel_rfl), .inl rfl, (fun h => nomatch h), (fun _ h => nomatch h), .inl rfl⟩
theorem tok72 : TIok Tryz.prog 72 ti72 := ⟨by kernel_rfl, by kernel_rfl, by kernel_rfl, by kernel_rfl, (fun h => nomatch h), (fun h => nomatch h), .inl rfl, .inl rfl, .inl rfl, .inl rfl, .inl rfl, (fun h => nomatch h), (fun _ h => nomatch h), .inl rfl⟩
theorem tok73 : TIok Tryz.prog 73 ti73 := ⟨by kernel_rfl, by kernel_rfl, by kernel_rfl, by kernel_rfl, (fun h => nomatch h), (fun h => nomatch h), .inl rfl, .inl rfl, .inl rfl, .inr (by kernel_rfl), .inl rfl, (fun h => nomatch h), (fun _ h => nomatch h), .inl rfl⟩
theorem tok74 : TIok Tryz.prog 74 ti74 := ⟨by kernel_rfl, by kernel_rfl, by kernel_rfl, by kernel_rfl, (fun h => nomatch h), (fun h => nomatch h), .inl rfl, .inl rfl, .inl rfl, .inl rfl, .inl rfl, (fun h => nomatch h), (fun _ h => nomatch h), .inl rfl⟩
theorem tok75 : TIok Tryz.prog 75 ti75 := ⟨by kernel_rfl, by kernel_rfl, by kernel_rfl, by kernel_rfl, (fun h => nomatch h), (fun h => nomatch h), .inl rfl, .inl rfl, .inl rfl, .inr (by kernel_rfl), .inl rfl, (fun h => nomatch h), (fun _ h => nomatch h), .inl rfl⟩
theorem tok76 : TIok Tryz.prog 76 ti76 := ⟨by kernel_rfl, by kernel_rfl, by kernel_rfl, by kernel_rfl, (fun h => nomatch h), (fun h => nomatch h), .inl rfl, .inl rfl, .inl rfl, .inr (by kernel_rfl), .inl rfl, (fun h => nomatch h), (fun _ h => nomatch h), .inl rfl⟩
theorem tok77 : TIok Tryz.prog 77 ti77 := ⟨by kernel_rfl, by kernel_rfl, by kernel_rfl, by kernel_rfl, (fun h => nomatch h), (fun h => nomatch h), .inl rfl, .inl rfl, .inl rfl, .inr (by kernel_rfl), .inl rfl, (fun h => nomatch h), (fun _ h => nomatch h), .inl rfl⟩
theorem tok78 : TIok Tryz.prog 78 ti78 := ⟨by kernel_rfl, by kernel_rfl, by kernel_rfl, by kernel_rfl, (fun h => nomatch h), (fun h => nomatch h), .inl rfl, .inl rfl, .inl rfl, .inl rfl, .inl rfl, (fun h => nomatch h), (fun _ h => nomatch h), .inl rfl⟩
theorem tok79 : TIok Tryz.prog 79 ti79 := ⟨by kernel_rfl, by kernel_rfl, by kernel_rfl, by kernel_rfl, (fun h => nomatch h), (fun h => nomatch h), .inl rfl, .inl rfl, .inl rfl, .inr (by kernel_rfl), .inl rfl, (fun h => nomatch h), (fun _ h => nomatch h), .inl rfl⟩
theorem tok80 : TIok Tryz.prog 80 ti80 := ⟨by kernel_rfl, by kernel_rfl, by kernel_rfl, by kernel_rfl, (fun h => nomatch h), (fun h => nomatch h), .inl rfl, .inl rfl, .inl rfl, .inr (by kernel_rfl), .inl rfl, (fun h => nomatch h), (fun _ h => nomatch h), .inl rfl⟩
theorem tok81 : TIok Tryz.prog 81 ti81 := ⟨by kernel_rfl, by kernel_rfl, by kernel_rfl, by kernel_rfl, (fun h => nomatch h), (fun h => nomatch h), .inl rfl, .inl rfl, .inl rfl, .inr (by kernel_rfl), .inl rfl, (fun h => nomatch h), (fun _ h => nomatch h), .inl rfl⟩
theorem tok82 : TIok Tryz.prog 82 ti82 := ⟨by kernel_rfl, by kernel_rfl, by kernel_rfl, by kernel_rfl, (fun h => nomatch h), (fun h => nomatch h), .inl rfl, .inl rfl, .inl rfl, .inr (by kernel_rfl), .inl rfl, (fun h => nomatch h), (fun _ h => nomatch h), .inl rfl⟩
theorem tok83 : TIok Tryz.prog 83 ti83 := ⟨by kernel_rfl, by kernel_rfl, by kernel_rfl, by kernel_rfl, (fun h => nomatch h), (fun h => nomatch h), .inl rfl, .inl rfl, .inl rfl, .inl rfl, .inl rfl, (fun h => nomatch h), (fun _ h => nomatch h), .inl rfl⟩
theorem tok84 : TIok Tryz.prog 84 ti84 := ⟨by kernel_rfl, by kernel_rfl, by kernel_rfl, by kernel_rfl, (fun h => nomatch h), (fun h => nomatch h), .inl rfl, .inl rfl, .inl rfl, .inr (by kernel_rfl), .inl rfl, (fun h => nomatch h), (fun _ h => nomatch h), .inl rfl⟩
theorem tok85 : TIok Tryz.prog 85 ti85 := ⟨by kernel_rfl, by kernel_rfl, by kernel_rfl, by kernel_rfl, (fun h => nomatch h), (fun h => nomatch h), .inl rfl, .inl rfl, .inl rfl, .inl rfl, .inl rfl, (fun h => nomatch h), (fun _ h => nomatch h), .inl rfl⟩
theorem tok86 : TIok Tryz.prog 86 ti86 := ⟨by kernel_rfl, by kernel_rfl, by kernel_rfl, by kernel_rfl, (fun h => nomatch h), (fun h => nomatch h), .inl rfl, .inl rfl, .inl rfl, .inr (by kernel_rfl), .inl rfl, (fun h => nomatch h), (fun _ h => nomatch h), .inl rfl⟩
theorem tok87 : TIok Tryz.prog 87 ti87 := ⟨by kernel_rfl, by kernel_rfl, by kernel_rfl, by kernel_rfl, (fun h => nomatch h), (fun h => nomatch h), .inl rfl, .inl rfl, .inl rfl, .inr (by kernel_rfl), .inl rfl, (fun h => nomatch h), (fun _ h => nomatch h), .inl rfl⟩
theorem tok88 : TIok Tryz.prog 88 ti88 := ⟨by kernel_rfl, by kernel_rfl, by kernel_rfl, by kernel_rfl, (fun h => nomatch h), (fun h => nomatch h), .inl rfl, .inl rfl, .inl rfl, .inr (by kernel_rfl), .inl rfl, (fun h => nomatch h), (fun _ h => nomatch h), .inl rfl⟩
theorem tok89 : TIok Tryz.prog 89 ti89 := ⟨by kernel_rfl, by kernel_rfl, by kernel_rfl, by kernel_rfl, (fun h => nomatch h), (fun h => nomatch h), .inl rfl, .inl rfl, .inl rfl, .inr (by kernel_rfl), .inl rfl, (fun h => nomatch h), (fun _ h => nomatch h), .inl rfl⟩
theorem tok90 : TIok Tryz.prog 90 ti90 := ⟨by kernel_rfl, by kernel_rfl, by kernel_rfl, by kernel_rfl, (fun h => nomatch h), (fun h => nomatch h), .inl rfl, .inl rfl, .inl rfl, .inr (by kernel_rfl), .inl rfl, (fun h => nomatch h), (fun _ h => nomatch h), .inl rfl⟩
theorem tok91 : TIok Tryz.prog 91 ti91 := ⟨by kernel_rfl, by kernel_rfl, by kernel_rfl, by kernel_rfl, (fun h => nomatch h), (fun h => nomatch h), .inl rfl, .inl rfl, .inr (fields_of (by kernel_rfl)), .inr (by kernel_rfl), .inr (by kernel_rfl), (fun h => nomatch h), (fun ks h => Option.some.inj h ▸ structEq_of (by kernel_rfl) (by kernel_rfl) (by kernel_rfl)), .inl rfl⟩
theorem tok92 : TIok Tryz.prog 92 ti92 := ⟨by kernel_rfl, by kernel_rfl, by kernel_rfl, by kernel_rfl, (fun h => nomatch h), (fun h => nomatch h), .inl rfl, .inl rfl, .inr (fields_of (by kernel_rfl)), .inr (by kernel_rfl), .inr (by kernel_rfl), (fun h => nomatch h), (fun ks h => Option.some.inj h ▸ structEq_of (by kernel_rfl) (by kernel_rfl) (by kernel_rfl)), .inl rfl⟩
theorem tok93 : TIok Tryz.prog 93 ti93 := ⟨by kernel_rfl, by kernel_rfl, by kernel_rfl, by kernel_rfl, (fun h => nomatch h), (fun h => nomatch h), .inl rfl, .inl rfl, .inl rfl, .inr (by kernel_rfl), .inl rfl, (fun h => nomatch h), (fun _ h => nomatch h), .inl rfl⟩
theorem tok94 : TIok Tryz.prog 94 ti94 := ⟨by kernel_rfl, by kernel_rfl, by kernel_rfl, by kernel_rfl, (fun h => nomatch h), (fun h => nomatch h), .inl rfl, .inl rfl, .inl rfl, .inr (by kernel_rfl), .inl rfl, (fun h => nomatch h), (fun _ h => nomatch h), .inl rfl⟩
theorem tok95 : TIok Tryz.prog 95 ti95 := ⟨by kernel_rfl, by kernel_rfl, by kernel_rfl, by kernel_rfl, (fun h => nomatch h), (fun h => nomatch h), .inl rfl, .inl rfl, .inl rfl, .inr (by kernel_rfl), .inl rfl, (fun h => nomatch h), (fun _ h => nomatch h), .inl rfl⟩
theorem tok96 : TIok Tryz.prog 96 ti96 := ⟨by kernel_rfl, by kernel_rfl, by kernel_rfl, by kernel_rfl, (fun h => nomatch h), (fun h => nomatch h), .inl rfl, .inl rfl, .inl rfl, .inr (by kernel_rfl), .inl rfl, (fun h => nomatch h), (fun _ h => nomatch h), .inl rfl⟩
theorem tok97 : TIok Tryz.prog 97 ti97 := ⟨by kernel_rfl, by kernel_rfl, by kernel_rfl, by kernel_rfl, (fun h => nomatch h), (fun h => nomatch h), .inl rfl, .inl rfl, .inl rfl, .inr (by kernel_rfl), .inl rfl, (fun h => nomatch h), (fun _ h => nomatch h), .inl rfl⟩
theorem tok98 : TIok Tryz.prog 98 ti98 := ⟨by kernel_rfl, by kernel_rfl, by kernel_rfl, by kernel_rfl, (fun h => nomatch h), (fun h => nomatch h), .inl rfl, .inl rfl, .inr (fields_of (by kernel_rfl)), .inr (by kernel_rfl), .inr (by kernel_rfl), (fun h => nomatch h), (fun ks h => Option.some.inj h ▸ structEq_of (by kernel_rfl) (by kernel_rfl) (by kernel_rfl)), .inl rfl⟩
theorem tok99 : TIok Tryz.prog 99 ti99 := ⟨by kernel_rfl, by kernel_rfl, by kernel_rfl, by kernel_rfl, (fun h => nomatch h), (fun h => nomatch h), .inl rfl, .inl rfl, .inr (fields_of (by kernel_rfl)), .inr (by kernel_rfl), .inr (by kernel_rfl), (fun h => nomatch h), (fun ks h => Option.some.inj h ▸ structEq_of (by kernel_rfl) (by kernel_rfl) (by kernel_rfl)), .inl rfl⟩
theorem tok100 : TIok Tryz.prog 100 ti100 := ⟨by kernel_rfl, by kernel_rfl, by kernel_rfl, by kernel_rfl, (fun h => nomatch h), (fun h => nomatch h), .inl rfl, .inl rfl, .inl rfl, .inr (by kernel_rfl), .inl rfl, (fun h => nomatch h), (fun _ h => nomatch h), .inl rfl⟩
theorem tok101 : TIok Tryz.prog 101 ti101 := ⟨by kernel_rfl, by kernel_rfl, by kernel_rfl, by kernel_rfl, (fun h => nomatch h), (fun h => nomatch h), .inl rfl, .inl rfl, .inr (fields_of (by kernel_rfl)), .inr (by kernel_rfl), .inr (by kernel_rfl), (fun h => nomatch h), (fun ks h => Option.some.inj h ▸ structEq_of (by kernel_rfl) (by kernel_rfl) (by kernel_rfl)), .inl rfl⟩
theorem tok102 : TIok Tryz.prog 102 ti102 := ⟨by kernel_rfl, by kernel_rfl, by kernel_rfl, by kernel_rfl, (fun h => nomatch h), (fun h => nomatch h), .inl rfl, .inl rfl, .inr (fields_of (by kernel_rfl)), .inr (by kernel_rfl), .inr (by kernel_rfl), (fun h => nomatch h), (fun ks h => Option.some.inj h ▸ structEq_of (by kernel_rfl) (by kernel_rfl) (by kernel_rfl)), .inl rfl⟩
theorem tok103 : TIok Tryz.prog 103 ti103 := ⟨by kernel_rfl, by kernel_rfl, by kernel_rfl, by kernel_rfl, (fun h => nomatch h), (fun h => nomatch h), .inl rfl, .inl rfl, .inl rfl, .inr (by kernel_rfl), .inl rfl, (fun h => nomatch h), (fun _ h => nomatch h), .inl rfl⟩
theorem tok104 : TIok Tryz.prog 104 ti104 := ⟨by kernel_rfl, by kernel_rfl, by kernel_rfl, by kernel_rfl, (fun h => nomatch h), (fun h => nomatch h), .inl rfl, .inl rfl, .inl rfl, .inr (by kernel_rfl), .inl rfl, (fun h => nomatch h), (fun _ h => nomatch h), .inl rfl⟩
theorem tok105 : TIok Tryz.prog 105 ti105 := ⟨by kernel_rfl, by kernel_rfl, by kernel_rfl, by kernel_rfl, (fun h => nomatch h), (fun h => nomatch h), .inl rfl, .inl rfl, .inl rfl, .inr (by kernel_rfl), .inl rfl, (fun h => nomatch h), (fun _ h => nomatch h), .inl rfl⟩
theorem tok106 : TIok Tryz.prog 106 ti106 := ⟨by kernel_rfl, by kernel_rfl, by kernel_rfl, by kernel_rfl, (fun h => nomatch h), (fun h => nomatch h), .inl rfl, .inl rfl, .inl rfl, .inr (by kernel_rfl), .inl rfl, (fun h => nomatch h), (fun _ h => nomatch h), .inl rfl⟩
theorem tok107 : TIok Tryz.prog 107 ti107 := ⟨by kernel_rfl, by kernel_rfl, by kernel_rfl, by kernel_rfl, (fun h => nomatch h), (fun h => nomatch h), .inl rfl, .inl rfl, .inl rfl, .inr (by kernel_rfl), .inl rfl, (fun h => nomatch h), (fun _ h => nomatch h), .inl rfl⟩
theorem tok108 : TIok Tryz.prog 108 ti108 := ⟨by kernel_rfl, by kernel_rfl, by kernel_rfl, by kernel_rfl, (fun h => nomatch h), (fun h => nomatch h), .inl rfl, .inl rfl, .inl rfl, .inr (by kernel_rfl), .inl rfl, (fun h => nomatch h), (fun _ h => nomatch h), .inl rfl⟩
theorem tok109 : TIok Tryz.prog 109 ti109 := ⟨by kernel_rfl, by kernel_rfl, by kernel_rfl, by kernel_rfl, (fun h => nomatch h), (fun h => nomatch h), .inl rfl, .inl rfl, .inl rfl, .inr (by kernel_rfl), .inl rfl, (fun h => nomatch h), (fun _ h => nomatch h), .inl rfl⟩
theorem tok110 : TIok Tryz.prog 110 ti110 := ⟨by kernel_rfl, by kernel_rfl, by kernel_rfl, by kernel_rfl, (fun h => nomatch h), (fun h => nomatch h), .inl rfl, .inl rfl, .inl rfl, .inr (by kernel_rfl), .inl rfl, (fun h => nomatch h), (fun _ h => nomatch h), .inl rfl⟩
theorem tok111 : TIok Tryz.prog 111 ti111 := ⟨by kernel_rfl, by kernel_rfl, by kernel_rfl, by kernel_rfl, (fun h => nomatch h), (fun h => nomatch h), .inl rfl, .inl rfl, .inl rfl, .inr (by kernel_rfl), .inl rfl, (fun h => nomatch h), (fun _ h => nomatch h), .inl rfl⟩
theorem tok112 : TIok Tryz.prog 112 ti112 := ⟨by kernel_rfl, by kernel_rfl, by kernel_rfl, by kernel_rfl, (fun h => nomatch h), (fun h => nomatch h), .inl rfl, .inl rfl, .inl rfl, .inr (by kernel_rfl), .inl rfl, (fun h => nomatch h), (fun _ h => nomatch h), .inl rfl⟩
theorem tok113 : TIok Tryz.prog 113 ti113 := ⟨by kernel_rfl, by kernel_rfl, by kernel_rfl, by kernel_rfl, (fun h => nomatch h), (fun h => nomatch h), .inl rfl, .inl rfl, .inl rfl, .inr (by kernel_rfl), .inl rfl, (fun h => nomatch h), (fun _ h => nomatch h), .inl rfl⟩
theorem tok114 : TIok Tryz.prog 114 ti114 := ⟨by kernel_rfl, by kernel_rfl, by kernel_rfl, by kernel_rfl, (fun h => nomatch h), (fun h => nomatch h), .inl rfl, .inl rfl, .inl rfl, .inr (by kernel_rfl), .inl rfl, (fun h => nomatch h), (fun _ h => nomatch h), .inl rfl⟩
theorem tok115 : TIok Tryz.prog 115 ti115 := ⟨by kernel_rfl, by kernel_rfl, by kernel_rfl, by kernel_rfl, (fun h => nomatch h), (fun h => nomatch h), .inl rfl, .inl rfl, .inl rfl, .inr (by kernel_rfl), .inl rfl, (fun h => nomatch h), (fun _ h => nomatch h), .inl rfl⟩
theorem tok116 : TIok Tryz.prog 116 ti116 := ⟨by kernel_rfl, by kernel_rfl, by kernel_rfl, by kernel_rfl, (fun h => nomatch h), (fun h => nomatch h), .inl rfl, .inl rfl, .inl rfl, .inr (by kernel_rfl), .inl rfl, (fun h => nomatch h), (fun _ h => nomatch h), .inl rfl⟩
theorem tok117 : TIok Tryz.prog 117 ti117 := ⟨by kernel_rfl, by kernel_rfl, by kernel_rfl, by kernel_rfl, (fun h => nomatch h), (fun h => nomatch h), .inl rfl, .inl rfl, .inl rfl, .inr (by kernel_rfl), .inl rfl, (fun h => nomatch h), (fun _ h => nomatch h), .inl rfl⟩
theorem tok118 : TIok Tryz.prog 118 ti118 := ⟨by kernel_rfl, by kernel_rfl, by kernel_rfl, by kernel_rfl, (fun h => nomatch h), (fun h => nomatch h), .inl rfl, .inl rfl, .inl rfl, .inr (by kernel_rfl), .inl rfl, (fun h => nomatch h), (fun _ h => nomatch h), .inl rfl⟩
theorem tok119 : TIok Tryz.prog 119 ti119 := ⟨by kernel_rfl, by kernel_rfl, by kernel_rfl, by kernel_rfl, (fun h => nomatch h), (fun h => nomatch h), .inl rfl, .inl rfl, .inl rfl, .inr (by kernel_rfl), .inr (by kernel_rfl), (fun h => nomatch h), (fun _ h => nomatch h), .inr (by kernel_rfl)⟩
theorem tok120 : TIok Tryz.prog 120 ti120 := ⟨by kernel_rfl, by kernel_rfl, by kernel_rfl, by kernel_rfl, (fun h => nomatch h), (fun h => nomatch h), .inl rfl, .inl rfl, .inl rfl, .inr (by kernel_rfl), .inl rfl, (fun h => nomatch h), (fun _ h => nomatch h), .inl rfl⟩
theorem tok121 : TIok Tryz.prog 121 ti121 := ⟨by kernel_rfl, by kernel_rfl, by kernel_rfl, by kernel_rfl, (fun h => nomatch h), (fun h => nomatch h), .inl rfl, .inl rfl, .inl rfl, .inr (by kernel_rfl), .inl rfl, (fun h => nomatch h), (fun _ h => nomatch h), .inl rfl⟩
theorem tok122 : TIok Tryz.prog 122 ti122 := ⟨by kernel_rfl, by kernel_rfl, by kernel_rfl, by kernel_rfl, (fun h => nomatch h), (fun h => nomatch h), .inl rfl, .inl rfl, .inl rfl, .inr (by kernel_rfl), .inl rfl, (fun h => nomatch h), (fun _ h => nomatch h), .inl rfl⟩
theorem tok123 : TIok Tryz.prog 123 ti123 := ⟨by kernel_rfl, by kernel_rfl, by kernel_rfl, by kernel_rfl, (fun h => nomatch h), (fun h => nomatch h), .inl rfl, .inl rfl, .inl rfl, .inr (by kernel_rfl), .inl rfl, (fun h => nomatch h), (fun _ h => nomatch h), .inl rfl⟩
theorem tok124 : TIok Tryz.prog 124 ti124 := ⟨by kernel_rfl, by kernel_rfl, by kernel_rfl, by kernel_rfl, (fun h => nomatch h), (fun h => nomatch h), .inl rfl, .inr (by kernel_rfl), .inl rfl, .inr (by kernel_rfl), .inl rfl, (fun h => nomatch h), (fun _ h => nomatch h), .inl rfl⟩
theorem tok125 : TIok Tryz.prog 125 ti125 := ⟨by kernel_rfl, by kernel_rfl, by kernel_rfl, by kernel_rfl, (fun h => nomatch h), (fun h => nomatch h), .inl rfl, .inl rfl, .inl rfl, .inl rfl, .inl rfl, (fun h => nomatch h), (fun _ h => nomatch h), .inl rfl⟩
theorem tok126 : TIok Tryz.prog 126 ti126 := ⟨by kernel_rfl, by kernel_rfl, by kernel_rfl, by kernel_rfl, (fun h => nomatch h), (fun h => nomatch h), .inl rfl, .inl rfl, .inl rfl, .inr (by kernel_rfl), .inl rfl, (fun h => nomatch h), (fun _ h => nomatch h), .inl rfl⟩
theorem tok127 : TIok Tryz.prog 127 ti127 := ⟨by kernel_rfl, by kernel_rfl, by kernel_rfl, by kernel_rfl, (fun h => nomatch h), (fun h => nomatch h), .inl rfl, .inl rfl, .inl rfl, .inr (by kernel_rfl), .inl rfl, (fun h => nomatch h), (fun _ h => nomatch h), .inl rfl⟩
theorem tok128 : TIok Tryz.prog 128 ti128 := ⟨by kernel_rfl, by kernel_rfl, by kernel_rfl, by kernel_rfl, (fun h => nomatch h), (fun h => nomatch h), .inl rfl, .inl rfl, .inl rfl, .inr (by kernel_rfl), .inl rfl, (fun h => nomatch h), (fun _ h => nomatch h), .inl rfl⟩
theorem tok129 : TIok Tryz.prog 129 ti129 := ⟨by kernel_rfl, by kernel_rfl, by kernel_rfl, by kernel_rfl, (fun h => nomatch h), (fun h => nomatch h), .inl rfl, .inl rfl, .inl rfl, .inr (by kernel_rfl), .inl rfl, (fun h => nomatch h), (fun _ h => nomatch h), .inl rfl⟩
theorem tok130 : TIok Tryz.prog 130 ti130 := ⟨by kernel_rfl, by kernel_rfl, by kernel_rfl, by kernel_rfl, (fun h => nomatch h), (fun h => nomatch h), .inl rfl, .inl rfl, .inl rfl, .inr (by kernel_rfl), .inl rfl, (fun h => nomatch h), (fun _ h => nomatch h), .inl rfl⟩
theorem tok131 : TIok Tryz.prog 131 ti131 := ⟨by kernel_rfl, by kernel_rfl, by kernel_rfl, by kernel_rfl, (fun h => nomatch h), (fun h => nomatch h), .inl rfl, .inl rfl, .inl rfl, .inr (by kernel_rfl), .inl rfl, (fun h => nomatch h), (fun _ h => nomatch h), .inl rfl⟩
theorem tok132 : TIok Tryz.prog 132 ti132 := ⟨by kernel_rfl, by kernel_rfl, by kernel_rfl, by kernel_rfl, (fun h => nomatch h), (fun h => nomatch h), .inl rfl, .inl rfl, .inl rfl, .inr (by kernel_rfl), .inl rfl, (fun h => nomatch h), (fun _ h => nomatch h), .inl rfl⟩
theorem tok133 : TIok Tryz.prog 133 ti133 := ⟨by kernel_rfl, by kernel_rfl, by kernel_rfl, by kernel_rfl, (fun h => nomatch h), (fun h => nomatch h), .inl rfl, .inl rfl, .inl rfl, .inr (by kernel_rfl), .inl rfl, (fun h => nomatch h), (fun _ h => nomatch h), .inl rfl⟩
theorem tok134 : TIok Tryz.prog 134 ti134 := ⟨by kernel_rfl, by kernel_rfl, by kernel_rfl, by kernel_rfl, (fun h => nomatch h), (fun h => nomatch h), .inl rfl, .inl rfl, .inl rfl, .inr (by kernel_rfl), .inl rfl, (fun h => nomatch h), (fun _ h => nomatch h), .inl rfl⟩
theorem tok135 : TIok Tryz.prog 135 ti135 := ⟨by kernel_rfl, by kernel_rfl, by kernel_rfl, by kernel_rfl, (fun h => nomatch h), (fun h => nomatch h), .inl rfl, .inl rfl, .inl rfl, .inr (by kernel_rfl), .inl rfl, (fun h => nomatch h), (fun _ h => nomatch h), .inl rfl⟩
theorem tok136 : TIok Tryz.prog 136 ti136 := ⟨by kernel_rfl, by kernel_rfl, by kernel_rfl, by kernel_rfl, (fun h => nomatch h), (fun h => nomatch h), .inl rfl, .inl rfl, .inl rfl, .inr (by kernel_rfl), .inl rfl, (fun h => nomatch h), (fun _ h => nomatch h), .inl rfl⟩
theorem tok137 : TIok Tryz.prog 137 ti137 := ⟨by kernel_rfl, by kernel_rfl, by kernel_rfl, by kernel_rfl, (fun h => nomatch h), (fun h => nomatch h), .inl rfl, .inl rfl, .inl rfl, .inr (by kernel_rfl), .inl rfl, (fun h => nomatch h), (fun _ h => nomatch h), .inl rfl⟩
theorem tok138 : TIok Tryz.prog 138 ti138 := ⟨by kernel_rfl, by kernel_rfl, by kernel_rfl, by kernel_rfl, (fun h => nomatch h), (fun h => nomatch h), .inl rfl, .inl rfl, .inl rfl, .inr (by kernel_rfl), .inl rfl, (fun h => nomatch h), (fun _ h => nomatch h), .inl rfl⟩
theorem tok139 : TIok Tryz.prog 139 ti139 := ⟨by kernel_rfl, by kernel_rfl, by kernel_rfl, by kernel_rfl, (fun h => nomatch h), (fun h => nomatch h), .inl rfl, .inl rfl, .inl rfl, .inr (by kernel_rfl), .inl rfl, (fun h => nomatch h), (fun _ h => nomatch h), .inl rfl⟩
theorem tok140 : TIok Tryz.prog 140 ti140 := ⟨by kernel_rfl, by kernel_rfl, by kernel_rfl, by kernel_rfl, (fun h => nomatch h), (fun h => nomatch h), .inl rfl, .inl rfl, .inl rfl, .inl rfl, .inl rfl, (fun h => nomatch h), (fun _ h => nomatch h), .inl rfl⟩
theorem tok141 : TIok Tryz.prog 141 ti141 := ⟨by kernel_rfl, by kernel_rfl, by kernel_rfl, by kernel_rfl, (fun h => nomatch h), (fun h => nomatch h), .inl rfl, .inl rfl, .inl rfl, .inr (by kernel_rfl), .inl rfl, (fun h => nomatch h), (fun _ h => nomatch h), .inl rfl⟩
theorem tok142 : TIok Tryz.prog 142 ti142 := ⟨by kernel_rfl, by kernel_rfl, by kernel_rfl, by kernel_rfl, (fun h => nomatch h), (fun h => nomatch h), .inl rfl, .inl rfl, .inl rfl, .inr (by kernel_rfl), .inl rfl, (fun h => nomatch h), (fun _ h => nomatch h), .inl rfl⟩
theorem tok143 : TIok Tryz.prog 143 ti143 := ⟨by kernel_rfl, by kernel_rfl, by kernel_rfl, by kernel_rfl, (fun h => nomatch h), (fun h => nomatch h), .inl rfl, .inl rfl, .inl rfl, .inr (by kernel_rfl), .inl rfl, (fun h => nomatch h), (fun _ h => nomatch h), .inl rfl⟩
theorem tok144 : TIok Tryz.prog 144 ti144 := ⟨by kernel_rfl, by kernel_rfl, by kernel_rfl, by kernel_rfl, (fun h => nomatch h), (fun h => nomatch h), .inl rfl, .inl rfl, .inl rfl, .inr (by kernel_rfl), .inl rfl, (fun h => nomatch h), (fun _ h => nomatch h), .inl rfl⟩
theorem tok145 : TIok Tryz.prog 145 ti145 := ⟨by kernel_rfl, by kernel_rfl, by kernel_rfl, by kernel_rfl, (fun h => nomatch h), (fun h => nomatch h), .inl rfl, .inl rfl, .inl rfl, .inr (by kernel_rfl), .inl rfl, (fun h => nomatch h), (fun _ h => nomatch h), .inl rfl⟩
theorem tok146 : TIok Tryz.prog 146 ti146 := ⟨by kernel_rfl, by kernel_rfl, by kernel_rfl, by kernel_rfl, (fun h => nomatch h), (fun h => nomatch h), .inl rfl, .inl rfl, .inr (fields_of (by kernel_rfl)), .inr (by kernel_rfl), .inr (by kernel_rfl), (fun h => nomatch h), (fun ks h => Option.some.inj h ▸ structEq_of (by kernel_rfl) (by kernel_rfl) (by kernel_rfl)), .inl rfl⟩
theorem tok147 : TIok Tryz.prog 147 ti147 := ⟨by kernel_rfl, by kernel_rfl, by kernel_rfl, by kernel_rfl, (fun h => nomatch h), (fun h => nomatch h), .inl rfl, .inl rfl, .inr (fields_of (by kernel_rfl)), .inr (by kernel_rfl), .inr (by kernel_rfl), (fun _ => elemOk_of (by kernel_rfl)), (fun ks h => Option.some.inj h ▸ structEq_of (by kernel_rfl) (by kernel_rfl) (by kernel_rfl)), .inl rfl⟩
theorem tok148 : TIok Tryz.prog 148 ti148 := ⟨by kernel_rfl, by kernel_rfl, by kernel_rfl, by kernel_rfl, (fun h => nomatch h), (fun h => nomatch h), .inl rfl, .inl rfl, .inl rfl, .inr (by kernel_rfl), .inl rfl, (fun h => nomatch h), (fun _ h => nomatch h), .inl rfl⟩
theorem tok149 : TIok Tryz.prog 149 ti149 := ⟨by kernel_rfl, by kernel_rfl, by kernel_rfl, by kernel_rfl, (fun h => nomatch h), (fun h => nomatch h), .inl rfl, .inl rfl, .inl rfl, .inr (by kernel_rfl), .inl rfl, (fun h => nomatch h), (fun _ h => nomatch h), .inl rfl⟩
theorem tok150 : TIok Tryz.prog 150 ti150 := ⟨by kernel_rfl, by kernel_rfl, by kernel_rfl, by kernel_rfl, (fun h => nomatch h), (fun h => nomatch h), .inl rfl, .inr (by kernel_rfl), .inl rfl, .inr (by kernel_rfl), .inl rfl, (fun h => nomatch h), (fun _ h => nomatch h), .inl rfl⟩
theorem tok151 : TIok Tryz.prog 151 ti151 := ⟨by kernel_rfl, by kernel_rfl, by kernel_rfl, by kernel_rfl, (fun h => nomatch h), (fun h => nomatch h), .inl rfl, .inl rfl, .inl rfl, .inr (by kernel_rfl), .inl rfl, (fun h => nomatch h), (fun _ h => nomatch h), .inl rfl⟩
theorem tok152 : TIok Tryz.prog 152 ti152 := ⟨by kernel_rfl, by kernel_rfl, by kernel_rfl, by kernel_rfl, (fun h => nomatch h), (fun h => nomatch h), .inl rfl, .inl rfl, .inl rfl, .inr (by kernel_rfl), .inl rfl, (fun h => nomatch h), (fun _ h => nomatch h), .inl rfl⟩
theorem tok153 : TIok Tryz.prog 153 ti153 := ⟨by kernel_rfl, by kernel_rfl, by kernel_rfl, by kernel_rfl, (fun h => nomatch h), (fun h => nomatch h), .inl rfl, .inl rfl, .inl rfl, .inr (by kernel_rfl), .inl rfl, (fun h => nomatch h), (fun _ h => nomatch h), .inl rfl⟩
theorem tok154 : TIok Tryz.prog 154 ti154 := ⟨by kernel_rfl, by kernel_rfl, by kernel_rfl, by kernel_rfl, (fun h => nomatch h), (fun h => nomatch h), .inl rfl, .inl rfl, .inl rfl, .inr (by kernel_rfl), .inl rfl, (fun h => nomatch h), (fun _ h => nomatch h), .inl rfl⟩
theorem tok155 : TIok Tryz.prog 155 ti155 := ⟨by kernel_rfl, by kernel_rfl, by kernel_rfl, by kernel_rfl, (fun h => nomatch h), (fun h => nomatch h), .inl rfl, .inl rfl, .inl rfl, .inr (by kernel_rfl), .inl rfl, (fun h => nomatch h), (fun _ h => nomatch h), .inl rfl⟩
theorem tok156 : TIok Tryz.prog 156 ti156 := ⟨by kernel_rfl, by kernel_rfl, by kernel_rfl, by kernel_rfl, (fun h => nomatch h), (fun h => nomatch h), .inl rfl, .inl rfl, .inl rfl, .inr (by kernel_rfl), .inl rfl, (fun h => nomatch h), (fun _ h => nomatch h), .inl rfl⟩
theorem tok157 : TIok Tryz.prog 157 ti157 := ⟨by kernel_rfl, by kernel_rfl, by kernel_rfl, by kernel_rfl, (fun h => nomatch h), (fun h => nomatch h), .inl rfl, .inl rfl, .inl rfl, .inr (by kernel_rfl), .inl rfl, (fun h => nomatch h), (fun _ h => nomatch h), .inl rfl⟩
theorem tok158 : TIok Tryz.prog 158 ti158 := ⟨by kernel_rfl, by kernel_rfl, by kernel_rfl, by kernel_rfl, (fun h => nomatch h), (fun h => nomatch h), .inl rfl, .inl rfl, .inl rfl, .inr (by kernel_rfl), .inl rfl, (fun h => nomatch h), (fun _ h => nomatch h), .inl rfl⟩
theorem tok159 : TIok Tryz.prog 159 ti159 := ⟨by kernel_rfl, by kernel_rfl, by kernel_rfl, by kernel_rfl, (fun h => nomatch h), (fun h => nomatch h), .inl rfl, .inl rfl, .inl rfl, .inr (by kernel_rfl), .inl rfl, (fun h => nomatch h), (fun _ h => nomatch h), .inl rfl⟩
theorem tok160 : TIok Tryz.prog 160 ti160 := ⟨by kernel_rfl, by kernel_rfl, by kernel_rfl, by kernel_rfl, (fun h => nomatch h), (fun h => nomatch h), .inl rfl, .inl rfl, .inl rfl, .inr (by kernel_rfl), .inl rfl, (fun h => nomatch h), (fun _ h => nomatch h), .inl rfl⟩
theorem tok161 : TIok Tryz.prog 161 ti161 := ⟨by kernel_rfl, by kernel_rfl, by kernel_rfl, by kernel_rfl, (fun h => nomatch h), (fun h => nomatch h), .inl rfl, .inr (by kernel_rfl), .inl rfl, .inr (by kernel_rfl), .inl rfl, (fun h => nomatch h), (fun _ h => nomatch h), .inl rfl⟩
theorem tok162 : TIok Tryz.prog 162 ti162 := ⟨by kernel_rfl, by kernel_rfl, by kernel_rfl, by kernel_rfl, (fun h => nomatch h), (fun h => nomatch h), .inl rfl, .inr (by kernel_rfl), .inl rfl, .inr (by kernel_rfl), .inl rfl, (fun h => nomatch h), (fun _ h => nomatch h), .inl rfl⟩
theorem tok163 : TIok Tryz.prog 163 ti163 := ⟨by kernel_rfl, by kernel_rfl, by kernel_rfl, by kernel_rfl, (fun h => nomatch h), (fun h => nomatch h), .inl rfl, .inl rfl, .inr (fields_of (by kernel_rfl)), .inr (by kernel_rfl), .inr (by kernel_rfl), (fun h => nomatch h), (fun _ h => nomatch h), .inl rfl⟩
theorem tok164 : TIok Tryz.prog 164 ti164 := ⟨by kernel_rfl, by kernel_rfl, by kernel_rfl, by kernel_rfl, (fun h => nomatch h), (fun h => nomatch h), .inl rfl, .inl rfl, .inr (fields_of (by kernel_rfl)), .inr (by kernel_rfl), .inr (by kernel_rfl), (fun h => nomatch h), (fun _ h => nomatch h), .inl rfl⟩
theorem tok165 : TIok Tryz.prog 165 ti165 := ⟨by kernel_rfl, by kernel_rfl, by kernel_rfl, by kernel_rfl, (fun h => nomatch h), (fun h => nomatch h), .inl rfl, .inl rfl, .inl rfl, .inl rfl, .inl rfl, (fun h => nomatch h), (fun _ h => nomatch h), .inl rfl⟩
theorem tok166 : TIok Tryz.prog 166 ti166 := ⟨by kernel_rfl, by kernel_rfl, by kernel_rfl, by kernel_rfl, (fun h => nomatch h), (fun h => nomatch h), .inl rfl, .inl rfl, .inl rfl, .inr (by kernel_rfl), .inl rfl, (fun h => nomatch h), (fun _ h => nomatch h), .inl rfl⟩
theorem tok167 : TIok Tryz.prog 167 ti167 := ⟨by kernel_rfl, by kernel_rfl, by kernel_rfl, by kernel_rfl, (fun h => nomatch h), (fun h => nomatch h), .inl rfl, .inl rfl, .inl rfl, .inr (by kernel_rfl), .inl rfl, (fun h => nomatch h), (fun _ h => nomatch h), .inl rfl⟩
theorem tok168 : TIok Tryz.prog 168 ti168 := ⟨by kernel_rfl, by kernel_rfl, by kernel_rfl, by kernel_rfl, (fun h => nomatch h), (fun h => nomatch h), .inl rfl, .inl rfl, .inl rfl, .inr (by kernel_rfl), .inl rfl, (fun h => nomatch h), (fun _ h => nomatch h), .inl rfl⟩
theorem tok169 : TIok Tryz.prog 169 ti169 := ⟨by kernel_rfl, by kernel_rfl, by kernel_rfl, by kernel_rfl, (fun h => nomatch h), (fun h => nomatch h), .inr (by kernel_rfl), .inl rfl, .inl rfl, .inr (by kernel_rfl), .inl rfl, (fun h => nomatch h), (fun _ h => nomatch h), .inl rfl⟩
theorem tok170 : TIok Tryz.prog 170 ti170 := ⟨by kernel_rfl, by kernel_rfl, by kernel_rfl, by kernel_rfl, (fun h => nomatch h), (fun h => nomatch h), .inl rfl, .inl rfl, .inl rfl, .inr (by kernel_rfl), .inl rfl, (fun h => nomatch h), (fun _ h => nomatch h), .inl rfl⟩
theorem tok171 : TIok Tryz.prog 171 ti171 := ⟨by kernel_rfl, by kernel_rfl, by kernel_rfl, by kernel_rfl, (fun h => nomatch h), (fun h => nomatch h), .inr (by kernel_rfl), .inl rfl, .inl rfl, .inr (by kernel_rfl), .inl rfl, (fun _ => elemOk_of (by kernel_rfl)), (fun _ h => nomatch h), .inl rfl⟩
theorem tok172 : TIok Tryz.prog 172 ti172 := ⟨by kernel_rfl, by kernel_rfl, by kernel_rfl, by kernel_rfl, (fun h => nomatch h), (fun h => nomatch h), .inr (by kernel_rfl), .inl rfl, .inl rfl, .inr (by kernel_rfl), .inl rfl, (fun h => nomatch h), (fun _ h => nomatch h), .inl rfl⟩
theorem tok173 : TIok Tryz.prog 173 ti173 := ⟨by kernel_rfl, by kernel_rfl, by kernel_rfl, by kernel_rfl, (fun h => nomatch h), (fun h => nomatch h), .inl rfl, .inr (by kernel_rfl), .inl rfl, .inr (by kernel_rfl), .inl rfl, (fun h => nomatch h), (fun _ h => nomatch h), .inl rfl⟩
theorem tok174 : TIok Tryz.prog 174 ti174 := ⟨by kernel_rfl, by kernel_rfl, by kernel_rfl, by kernel_rfl, (fun h => nomatch h), (fun h => nomatch h), .inl rfl, .inr (by kernel_rfl), .inl rfl, .inr (by kernel_rfl), .inl rfl, (fun h => nomatch h), (fun _ h => nomatch h), .inl rfl⟩
theorem tok175 : TIok Tryz.prog 175 ti175 := ⟨by kernel_rfl, by kernel_rfl, by kernel_rfl, by kernel_rfl, (fun h => nomatch h), (fun h => nomatch h), .inl rfl, .inl rfl, .inl rfl, .inr (by kernel_rfl), .inl rfl, (fun h => nomatch h), (fun _ h => nomatch h), .inl rfl⟩
theorem tok176 : TIok Tryz.prog 176 ti176 := ⟨by kernel_rfl, by kernel_rfl, by kernel_rfl, by kernel_rfl, (fun h => nomatch h), (fun h => nomatch h), .inl rfl, .inl rfl, .inl rfl, .inl rfl, .inl rfl, (fun h => nomatch h), (fun _ h => nomatch h), .inl rfl⟩
theorem tok177 : TIok Tryz.prog 177 ti177 := ⟨by kernel_rfl, by kernel_rfl, by kernel_rfl, by kernel_rfl, (fun h => nomatch h), (fun h => nomatch h), .inl rfl, .inl rfl, .inl rfl, .inr (by kernel_rfl), .inl rfl, (fun h => nomatch h), (fun _ h => nomatch h), .inl rfl⟩
theorem tok178 : TIok Tryz.prog 178 ti178 := ⟨by kernel_rfl, by kernel_rfl, by kernel_rfl, by kernel_rfl, (fun h => nomatch h), (fun h => nomatch h), .inl rfl, .inl rfl, .inl rfl, .inl rfl, .inl rfl, (fun h => nomatch h), (fun _ h => nomatch h), .inl rfl⟩
theorem tok179 : TIok Tryz.prog 179 ti179 := ⟨by kernel_rfl, by kernel_rfl, by kernel_rfl, by kernel_rfl, (fun h => nomatch h), (fun h => nomatch h), .inl rfl, .inl rfl, .inl rfl, .inr (by kernel_rfl), .inl rfl, (fun h => nomatch h), (fun _ h => nomatch h), .inl rfl⟩
theorem tok180 : TIok Tryz.prog 180 ti180 := ⟨by kernel_rfl, by kernel_rfl, by kernel_rfl, by kernel_rfl, (fun h => nomatch h), (fun h => nomatch h), .inl rfl, .inl rfl, .inl rfl, .inr (by kernel_rfl), .inl rfl, (fun h => nomatch h), (fun _ h => nomatch h), .inl rfl⟩
theorem tok181 : TIok Tryz.prog 181 ti181 := ⟨by kernel_rfl, by kernel_rfl, by kernel_rfl, by kernel_rfl, (fun h => nomatch h), (fun h => nomatch h), .inl rfl, .inl rfl, .inl rfl, .inl rfl, .inl rfl, (fun h => nomatch h), (fun _ h => nomatch h), .inl rfl⟩
theorem tok182 : TIok Tryz.prog 182 ti182 := ⟨by kernel_rfl, by kernel_rfl, by kernel_rfl, by kernel_rfl, (fun h => nomatch h), (fun h => nomatch h), .inl rfl, .inl rfl, .inl rfl, .inr (by kernel_rfl), .inl rfl, (fun h => nomatch h), (fun _ h => nomatch h), .inl rfl⟩
theorem tok183 : TIok Tryz.prog 183 ti183 := ⟨by kernel_rfl, by kernel_rfl, by kernel_rfl, by kernel_rfl, (fun h => nomatch h), (fun h => nomatch h), .inl rfl, .inl rfl, .inl rfl, .inr (by kernel_rfl), .inl rfl, (fun h => nomatch h), (fun _ h => nomatch h), .inl rfl⟩
theorem tok184 : TIok Tryz.prog 184 ti184 := ⟨by kernel_rfl, by kernel_rfl, by kernel_rfl, by kernel_rfl, (fun h => nomatch h), (fun h => nomatch h), .inl rfl, .inl rfl, .inl rfl, .inr (by kernel_rfl), .inl rfl, (fun h => nomatch h), (fun _ h => nomatch h), .inl rfl⟩
theorem tok185 : TIok Tryz.prog 185 ti185 := ⟨by kernel_rfl, by kernel_rfl, by kernel_rfl, by kernel_rfl, (fun h => nomatch h), (fun h => nomatch h), .inl rfl, .inl rfl, .inl rfl, .inr (by kernel_rfl), .inl rfl, (fun h => nomatch h), (fun _ h => nomatch h), .inl rfl⟩
theorem tok186 : TIok Tryz.prog 186 ti186 := ⟨by kernel_rfl, by kernel_rfl, by kernel_rfl, by kernel_rfl, (fun h => nomatch h), (fun h => nomatch h), .inl rfl, .inl rfl, .inl rfl, .inr (by kernel_rfl), .inl rfl, (fun h => nomatch h), (fun _ h => nomatch h), .inl rfl⟩
theorem tok187 : TIok Tryz.prog 187 ti187 := ⟨by kernel_rfl, by kernel_rfl, by kernel_rfl, by kernel_rfl, (fun h => nomatch h), (fun h => nomatch h), .inl rfl, .inl rfl, .inl rfl, .inl rfl, .inl rfl, (fun h => nomatch h), (fun _ h => nomatch h), .inl rfl⟩
theorem tok188 : TIok Tryz.prog 188 ti188 := ⟨by kernel_rfl, by kernel_rfl, by kernel_rfl, by kernel_rfl, (fun h => nomatch h), (fun h => nomatch h), .inl rfl, .inl rfl, .inl rfl, .inr (by kernel_rfl), .inl rfl, (fun h => nomatch h), (fun _ h => nomatch h), .inl rfl⟩
theorem tok189 : TIok Tryz.prog 189 ti189 := ⟨by kernel_rfl, by kernel_rfl, by kernel_rfl, by kernel_rfl, (fun h => nomatch h), (fun h => nomatch h), .inl rfl, .inl rfl, .inl rfl, .inr (by kernel_rfl), .inl rfl, (fun h => nomatch h), (fun _ h => nomatch h), .inl rfl⟩
theorem tok190 : TIok Tryz.prog 190 ti190 := ⟨by kernel_rfl, by kernel_rfl, by kernel_rfl, by kernel_rfl, (fun h => nomatch h), (fun h => nomatch h), .inl rfl, .inl rfl, .inl rfl, .inr (by kernel_rfl), .inl rfl, (fun h => nomatch h), (fun _ h => nomatch h), .inl rfl⟩
theorem tok191 : TIok Tryz.prog 191 ti191 := ⟨by kernel_rfl, by kernel_rfl, by kernel_rfl, by kernel_rfl, (fun h => nomatch h), (fun h => nomatch h), .inl rfl, .inl rfl, .inl rfl, .inr (by kernel_rfl), .inl rfl, (fun h => nomatch h), (fun _ h => nomatch h), .inl rfl⟩
theorem tok192 : TIok Tryz.prog 192 ti192 := ⟨by kernel_rfl, by kernel_rfl, by kernel_rfl, by kernel_rfl, (fun h => nomatch h), (fun h => nomatch h), .inl rfl, .inl rfl, .inl rfl, .inr (by kernel_rfl), .inl rfl, (fun h => nomatch h), (fun _ h => nomatch h), .inl rfl⟩
theorem tok193 : TIok Tryz.prog 193 ti193 := ⟨by kernel_rfl, by kernel_rfl, by kernel_rfl, by kernel_rfl, (fun h => nomatch h), (fun h => nomatch h), .inl rfl, .inr (by kernel_rfl), .inl rfl, .inr (by kernel_rfl), .inl rfl, (fun h => nomatch h), (fun _ h => nomatch h), .inl rfl⟩
theorem tok194 : TIok Tryz.prog 194 ti194 := ⟨by kernel_rfl, by kernel_rfl, by kernel_rfl, by kernel_rfl, (fun h => nomatch h), (fun h => nomatch h), .inl rfl, .inl rfl, .inl rfl, .inl rfl, .inl rfl, (fun h => nomatch h), (fun _ h => nomatch h), .inl rfl⟩
theorem tok195 : TIok Tryz.prog 195 ti195 := ⟨by kernel_rfl, by kernel_rfl, by kernel_rfl, by kernel_rfl, (fun h => nomatch h), (fun h => nomatch h), .inl rfl, .inl rfl, .inl rfl, .inr (by kernel_rfl), .inl rfl, (fun h => nomatch h), (fun _ h => nomatch h), .inl rfl⟩
theorem tok196 : TIok Tryz.prog 196 ti196 := ⟨by kernel_rfl, by kernel_rfl, by kernel_rfl, by kernel_rfl, (fun h => nomatch h), (fun h => nomatch h), .inl rfl, .inl rfl, .inr (fields_of (by kernel_rfl)), .inr (by kernel_rfl), .inr (by kernel_rfl), (fun h => nomatch h), (fun ks h => Option.some.inj h ▸ structEq_of (by kernel_rfl) (by kernel_rfl) (by kernel_rfl)), .inl rfl⟩
theorem tok197 : TIok Tryz.prog 197 ti197 := ⟨by kernel_rfl, by kernel_rfl, by kernel_rfl, by kernel_rfl, (fun h => nomatch h), (fun h => nomatch h), .inl rfl, .inl rfl, .inr (fields_of (by kernel_rfl)), .inr (by kernel_rfl), .inr (by kernel_rfl), (fun _ => elemOk_of (by kernel_rfl)), (fun ks h => Option.some.inj h ▸ structEq_of (by kernel_rfl) (by kernel_rfl) (by kernel_rfl)), .inl rfl⟩
theorem tok198 : TIok Tryz.prog 198 ti198 := ⟨by kernel_rfl, by kernel_rfl, by kernel_rfl, by kernel_rfl, (fun h => nomatch h), (fun h => nomatch h), .inl rfl, .inl rfl, .inl rfl, .inl rfl, .inl rfl, (fun h => nomatch h), (fun _ h => nomatch h), .inl rfl⟩
theorem tok199 : TIok Tryz.prog 199 ti199 := ⟨by kernel_rfl, by kernel_rfl, by kernel_rfl, by kernel_rfl, (fun h => nomatch h), (fun h => nomatch h), .inl rfl, .inl rfl, .inl rfl, .inr (by kernel_rfl), .inl rfl, (fun h => nomatch h), (fun _ h => nomatch h), .inl rfl⟩
theorem tok200 : TIok Tryz.prog 200 ti200 := ⟨by kernel_rfl, by kernel_rfl, by kernel_rfl, by kernel_rfl, (fun h => nomatch h), (fun h => nomatch h), .inl rfl, .inl rfl, .inl rfl, .inr (by kernel_rfl), .inl rfl, (fun h => nomatch h), (fun _ h => nomatch h), .inl rfl⟩
theorem tok201 : TIok Tryz.prog 201 ti201 := ⟨by kernel_rfl, by kernel_rfl, by kernel_rfl, by kernel_rfl, (fun h => nomatch h), (fun h => nomatch h), .inl rfl, .inl rfl, .inl rfl, .inr (by kernel_rfl), .inl rfl, (fun h => nomatch h), (fun _ h => nomatch h), .inl rfl⟩
theorem tok202 : TIok Tryz.prog 202 ti202 := ⟨by kernel_rfl, by kernel_rfl, by kernel_rfl, by kernel_rfl, (fun h => nomatch h), (fun h => nomatch h), .inl rfl, .inl rfl, .inl rfl, .inr (by kernel_rfl), .inl rfl, (fun h => nomatch h), (fun _ h => nomatch h), .inl rfl⟩
theorem tok203 : TIok Tryz.prog 203 ti203 := ⟨by kernel_rfl, by kernel_rfl, by kernel_rfl, by kernel_rfl, (fun h => nomatch h), (fun h => nomatch h), .inl rfl, .inl rfl, .inl rfl, .inl rfl, .inl rfl, (fun h => nomatch h), (fun _ h => nomatch h), .inl rfl⟩
theorem tok204 : TIok Tryz.prog 204 ti204 := ⟨by kernel_rfl, by kernel_rfl, by kernel_rfl, by kernel_rfl, (fun h => nomatch h), (fun h => nomatch h), .inl rfl, .inl rfl, .inl rfl, .inr (by kernel_rfl), .inl rfl, (fun h => nomatch h), (fun _ h => nomatch h), .inl rfl⟩
theorem tok205 : TIok Tryz.prog 205 ti205 := ⟨by kernel_rfl, by kernel_rfl, by kernel_rfl, by kernel_rfl, (fun h => nomatch h), (fun h => nomatch h), .inl rfl, .inl rfl, .inl rfl, .inr (by kernel_rfl), .inl rfl, (fun h => nomatch h), (fun _ h => nomatch h), .inl rfl⟩
theorem tok206 : TIok Tryz.prog 206 ti206 := ⟨by kernel_rfl, by kernel_rfl, by kernel_rfl, by kernel_rfl, (fun h => nomatch h), (fun h => nomatch h), .inl rfl, .inl rfl, .inl rfl, .inr (by kernel_rfl), .inl rfl, (fun h => nomatch h), (fun _ h => nomatch h), .inl rfl⟩
theorem tok207 : TIok Tryz.prog 207 ti207 := ⟨by kernel_rfl, by kernel_rfl, by kernel_rfl, by kernel_rfl, (fun h => nomatch h), (fun h => nomatch h), .inl rfl, .inl rfl, .inl rfl, .inr (by kernel_rfl), .inl rfl, (fun h => nomatch h), (fun _ h => nomatch h), .inl rfl⟩
theorem tok208 : TIok Tryz.prog 208 ti208 := ⟨by kernel_rfl, by kernel_rfl, by kernel_rfl, by kernel_rfl, (fun h => nomatch h), (fun h => nomatch h), .inl rfl, .inl rfl, .inl rfl, .inr (by kernel_rfl), .inl rfl, (fun h => nomatch h), (fun _ h => nomatch h), .inl rfl⟩
theorem tok209 : TIok Tryz.prog 209 ti209 := ⟨by kernel_rfl, by kernel_rfl, by kernel_rfl, by kernel_rfl, (fun h => nomatch h), (fun h => nomatch h), .inl rfl, .inl rfl, .inl rfl, .inr (by kernel_rfl), .inl rfl, (fun h => nomatch h), (fun _ h => nomatch h), .inl rfl⟩
theorem tok210 : TIok Tryz.prog 210 ti210 := ⟨by kernel_rfl, by kernel_rfl, by kernel_rfl, by kernel_rfl, (fun h => nomatch h), (fun h => nomatch h), .inl rfl, .inl rfl, .inl rfl, .inr (by kernel_rfl), .inl rfl, (fun h => nomatch h), (fun _ h => nomatch h), .inl rfl⟩
theorem tok211 : TIok Tryz.prog 211 ti211 := ⟨by kernel_rfl, by kernel_rfl, by kernel_rfl, by kernel_rfl, (fun h => nomatch h), (fun h => nomatch h), .inl rfl, .inl rfl, .inl rfl, .inr (by kernel_rfl), .inl rfl, (fun h => nomatch h), (fun _ h => nomatch h), .inl rfl⟩
theorem tok212 : TIok Tryz.prog 212 ti212 := ⟨by kernel_rfl, by kernel_rfl, by kernel_rfl, by kernel_rfl, (fun h => nomatch h), (fun h => nomatch h), .inl rfl, .inl rfl, .inl rfl, .inr (by kernel_rfl), .inl rfl, (fun h => nomatch h), (fun _ h => nomatch h), .inl rfl⟩
theorem tok213 : TIok Tryz.prog 213 ti213 := ⟨by kernel_rfl, by kernel_rfl, by kernel_rfl, by kernel_rfl, (fun h => nomatch h), (fun h => nomatch h), .inl rfl, .inl rfl, .inl rfl, .inr (by kernel_rfl), .inl rfl, (fun h => nomatch h), (fun _ h => nomatch h), .inl rfl⟩
theorem tok214 : TIok Tryz.prog 214 ti214 := ⟨by kernel_rfl, by kernel_rfl, by kernel_rfl, by kernel_rfl, (fun h => nomatch h), (fun h => nomatch h), .inl rfl, .inl rfl, .inl rfl, .inr (by kernel_rfl), .inl rfl, (fun h => nomatch h), (fun _ h => nomatch h), .inl rfl⟩
theorem tok215 : TIok Tryz.prog 215 ti215 := ⟨by kernel_rfl, by kernel_rfl, by kernel_rfl, by kernel_rfl, (fun h => nomatch h), (fun h => nomatch h), .inl rfl, .inl rfl, .inl rfl, .inr (by kernel_rfl), .inl rfl, (fun h => nomatch h), (fun _ h => nomatch h), .inl rfl⟩
theorem tok216 : TIok Tryz.prog 216 ti216 := ⟨by kernel_rfl, by kernel_rfl, by kernel_rfl, by kernel_rfl, (fun h => nomatch h), (fun h => nomatch h), .inl rfl, .inl rfl, .inl rfl, .inr (by kernel_rfl), .inl rfl, (fun h => nomatch h), (fun _ h => nomatch h), .inl rfl⟩
theorem tok217 : TIok Tryz.prog 217 ti217 := ⟨by kernel_rfl, by kernel_rfl, by kernel_rfl, by kernel_rfl, (fun h => nomatch h), (fun h => nomatch h), .inl rfl, .inl rfl, .inl rfl, .inr (by kernel_rfl), .inl rfl, (fun h => nomatch h), (fun _ h => nomatch h), .inl rfl⟩
theorem tok218 : TIok Tryz.prog 218 ti218 := ⟨by kernel_rfl, by kernel_rfl, by kernel_rfl, by kernel_rfl, (fun h => nomatch h), (fun h => nomatch h), .inl rfl, .inl rfl, .inl rfl, .inr (by kernel_rfl), .inl rfl, (fun h => nomatch h), (fun _ h => nomatch h), .inl rfl⟩
theorem tok219 : TIok Tryz.prog 219 ti219 := ⟨by kernel_rfl, by kernel_rfl, by kernel_rfl, by kernel_rfl, (fun h => nomatch h), (fun h => nomatch h), .inl rfl, .inl rfl, .inl rfl, .inr (by kernel_rfl), .inl rfl, (fun h => nomatch h), (fun _ h => nomatch h), .inl rfl⟩
theorem tok220 : TIok Tryz.prog 220 ti220 := ⟨by kernel_rfl, by kernel_rfl, by kernel_rfl, by kernel_rfl, (fun h => nomatch h), (fun h => nomatch h), .inl rfl, .inl rfl, .inl rfl, .inr (by kernel_rfl), .inl rfl, (fun h => nomatch h), (fun _ h => nomatch h), .inl rfl⟩
theorem tok221 : TIok Tryz.prog 221 ti221 := ⟨by kernel_rfl, by kernel_rfl, by kernel_rfl, by kernel_rfl, (fun h => nomatch h), (fun h => nomatch h), .inl rfl, .inl rfl, .inl rfl, .inr (by kernel_rfl), .inl rfl, (fun h => nomatch h), (fun _ h => nomatch h), .inl rfl⟩
theorem tok222 : TIok Tryz.prog 222 ti222 := ⟨by kernel_rfl, by kernel_rfl, by kernel_rfl, by kernel_rfl, (fun h => nomatch h), (fun h => nomatch h), .inl rfl, .inl rfl, .inl rfl, .inr (by kernel_rfl), .inl rfl, (fun h => nomatch h), (fun _ h => nomatch h), .inl rfl⟩
theorem tok223 : TIok Tryz.prog 223 ti223 := ⟨by kernel_rfl, by kernel_rfl, by kernel_rfl, by kernel_rfl, (fun h => nomatch h), (fun h => nomatch h), .inl rfl, .inl rfl, .inl rfl, .inr (by kernel_rfl), .inl rfl, (fun h => nomatch h), (fun _ h => nomatch h), .inl rfl⟩
theorem tok224 : TIok Tryz.prog 224 ti224 := ⟨by kernel_rfl, by kernel_rfl, by kernel_rfl, by kernel_rfl, (fun h => nomatch h), (fun h => nomatch h), .inl rfl, .inl rfl, .inl rfl, .inr (by kernel_rfl), .inl rfl, (fun h => nomatch h), (fun _ h => nomatch h), .inl rfl⟩
theorem tok225 : TIok Tryz.prog 225 ti225 := ⟨by kernel_rfl, by kernel_rfl, by kernel_rfl, by kernel_rfl, (fun h => nomatch h), (fun h => nomatch h), .inl rfl, .inl rfl, .inl rfl, .inr (by kernel_rfl), .inl rfl, (fun h => nomatch h), (fun _ h => nomatch h), .inl rfl⟩
theorem tok226 : TIok Tryz.prog 226 ti226 := ⟨by kernel_rfl, by kernel_rfl, by kernel_rfl, by kernel_rfl, (fun h => nomatch h), (fun h => nomatch h), .inl rfl, .inl rfl, .inl rfl, .inr (by kernel_rfl), .inl rfl, (fun h => nomatch h), (fun _ h => nomatch h), .inl rfl⟩
theorem tok227 : TIok Tryz.prog 227 ti227 := ⟨by kernel_rfl, by kernel_rfl, by kernel_rfl, by kernel_rfl, (fun h => nomatch h), (fun h => nomatch h), .inl rfl, .inl rfl, .inl rfl, .inr (by kernel_rfl), .inl rfl, (fun h => nomatch h), (fun _ h => nomatch h), .inl rfl⟩
theorem tok228 : TIok Tryz.prog 228 ti228 := ⟨by kernel_rfl, by kernel_rfl, by kernel_rfl, by kernel_rfl, (fun h => nomatch h), (fun h => nomatch h), .inl rfl, .inl rfl, .inl rfl, .inr (by kernel_rfl), .inl rfl, (fun h => nomatch h), (fun _ h => nomatch h), .inl rfl⟩
theorem tok229 : TIok Tryz.prog 229 ti229 := ⟨by kernel_rfl, by kernel_rfl, by kernel_rfl, by kernel_rfl, (fun h => nomatch h), (fun h => nomatch h), .inl rfl, .inl rfl, .inl rfl, .inr (by kernel_rfl), .inl rfl, (fun h => nomatch h), (fun _ h => nomatch h), .inl rfl⟩
theorem tok230 : TIok Tryz.prog 230 ti230 := ⟨by kernel_rfl, by kernel_rfl, by kernel_rfl, by kernel_rfl, (fun h => nomatch h), (fun h => nomatch h), .inl rfl, .inl rfl, .inl rfl, .inr (by kernel_rfl), .inl rfl, (fun h => nomatch h), (fun _ h => nomatch h), .inl rfl⟩
theorem tok231 : TIok Tryz.prog 231 ti231 := ⟨by kernel_rfl, by kernel_rfl, by kernel_rfl, by kernel_rfl, (fun h => nomatch h), (fun h => nomatch h), .inl rfl, .inl rfl, .inl rfl, .inr (by kernel_rfl), .inl rfl, (fun h => nomatch h), (fun _ h => nomatch h), .inl rfl⟩
theorem tok232 : TIok Tryz.prog 232 ti232 := ⟨by kernel_rfl, by kernel_rfl, by kernel_rfl, by kernel_rfl, (fun h => nomatch h), (fun h => nomatch h), .inl rfl, .inl rfl, .inl rfl, .inr (by kernel_rfl), .inl rfl, (fun h => nomatch h), (fun _ h => nomatch h), .inl rfl⟩
theorem tok233 : TIok Tryz.prog 233 ti233 := ⟨by kernel_rfl, by kernel_rfl, by kernel_rfl, by kernel_rfl, (fun h => nomatch h), (fun h => nomatch h), .inl rfl, .inl rfl, .inl rfl, .inr (by kernel_rfl), .inl rfl, (fun h => nomatch h), (fun _ h => nomatch h), .inl rfl⟩
theorem tok234 : TIok Tryz.prog 234 ti234 := ⟨by kernel_rfl, by kernel_rfl, by kernel_rfl, by kernel_rfl, (fun h => nomatch h), (fun h => nomatch h), .inl rfl, .inr (by kernel_rfl), .inl rfl, .inr (by kernel_rfl), .inl rfl, (fun h => nomatch h), (fun _ h => nomatch h), .inl rfl⟩
theorem tok235 : TIok Tryz.prog 235 ti235 := ⟨by kernel_rfl, by kernel_rfl, by kernel_rfl, by kernel_rfl, (fun h => nomatch h), (fun h => nomatch h), .inl rfl, .inl rfl, .inl rfl, .inr (by kernel_rfl), .inl rfl, (fun h => nomatch h), (fun _ h => nomatch h), .inl rfl⟩
theorem tok236 : TIok Tryz.prog 236 ti236 := ⟨by kernel_rfl, by kernel_rfl, by kernel_rfl, by kernel_rfl, (fun h => nomatch h), (fun h => nomatch h), .inl rfl, .inl rfl, .inr (fields_of (by kernel_rfl)), .inr (by kernel_rfl), .inr (by kernel_rfl), (fun h => nomatch h), (fun _ h => nomatch h), .inl rfl⟩
theorem tok237 : TIok Tryz.prog 237 ti237 := ⟨by kernel_rfl, by kernel_rfl, by kernel_rfl, by kernel_rfl, (fun h => nomatch h), (fun h => nomatch h), .inl rfl, .inl rfl, .inr (fields_of (by kernel_rfl)), .inr (by kernel_rfl), .inr (by kernel_rfl), (fun h => nomatch h), (fun _ h => nomatch h), .inl rfl⟩
theorem tok238 : TIok Tryz.prog 238 ti238 := ⟨by kernel_rfl, by kernel_rfl, by kernel_rfl, by kernel_rfl, (fun h => nomatch h), (fun h => nomatch h), .inl rfl, .inl rfl, .inl rfl, .inr (by kernel_rfl), .inl rfl, (fun h => nomatch h), (fun _ h => nomatch h), .inl rfl⟩
theorem tok239 : TIok Tryz.prog 239 ti239 := ⟨by kernel_rfl, by kernel_rfl, by kernel_rfl, by kernel_rfl, (fun h => nomatch h), (fun h => nomatch h), .inl rfl, .inl rfl, .inl rfl, .inr (by kernel_rfl), .inl rfl, (fun h => nomatch h), (fun _ h => nomatch h), .inl rfl⟩
theorem tok240 : TIok Tryz.prog 240 ti240 := ⟨by kernel_rfl, by kernel_rfl, by kernel_rfl, by kernel_rfl, (fun h => nomatch h), (fun h => nomatch h), .inl rfl, .inl rfl, .inl rfl, .inr (by kernel_rfl), .inl rfl, (fun h => nomatch h), (fun _ h => nomatch h), .inl rfl⟩
theorem tok241 : TIok Tryz.prog 241 ti241 := ⟨by kernel_rfl, by kernel_rfl, by kernel_rfl, by kernel_rfl, (fun h => nomatch h), (fun h => nomatch h), .inl rfl, .inl rfl, .inl rfl, .inr (by kernel_rfl), .inl rfl, (fun h => nomatch h), (fun _ h => nomatch h), .inl rfl⟩
theorem tok242 : TIok Tryz.prog 242 ti242 := ⟨by kernel_rfl, by kernel_rfl, by kernel_rfl, by kernel_rfl, (fun h => nomatch h), (fun h => nomatch h), .inl rfl, .inl rfl, .inl rfl, .inr (by kernel_rfl), .inl rfl, (fun h => nomatch h), (fun _ h => nomatch h), .inl rfl⟩
theorem tok243 : TIok Tryz.prog 243 ti243 := ⟨by kernel_rfl, by kernel_rfl, by kernel_rfl, by kernel_rfl, (fun h => nomatch h), (fun h => nomatch h), .inl rfl, .inl rfl, .inl rfl, .inl rfl, .inl rfl, (fun h => nomatch h), (fun _ h => nomatch h), .inl rfl⟩
theorem tok244 : TIok Tryz.prog 244 ti244 := ⟨by kernel_rfl, by kernel_rfl, by kernel_rfl, by kernel_rfl, (fun h => nomatch h), (fun h => nomatch h), .inl rfl, .inl rfl, .inl rfl, .inr (by kernel_rfl), .inl rfl, (fun h => nomatch h), (fun _ h => nomatch h), .inl rfl⟩
theorem tok245 : TIok Tryz.prog 245 ti245 := ⟨by kernel_rfl, by kernel_rfl, by kernel_rfl, by kernel_rfl, (fun h => nomatch h), (fun h => nomatch h), .inl rfl, .inl rfl, .inl rfl, .inr (by kernel_rfl), .inl rfl, (fun h => nomatch h), (fun _ h => nomatch h), .inl rfl⟩
theorem tok246 : TIok Tryz.prog 246 ti246 := ⟨by kernel_rfl, by kernel_rfl, by kernel_rfl, by kernel_rfl, (fun h => nomatch h), (fun h => nomatch h), .inl rfl, .inl rfl, .inl rfl, .inr (by kernel_rfl), .inr (by kernel_rfl), (fun h => nomatch h), (fun _ h => nomatch h), .inr (by kernel_rfl)⟩
theorem tok247 : TIok Tryz.prog 247 ti247 := ⟨by kernel_rfl, by kernel_rfl, by kernel_rfl, by kernel_rfl, (fun h => nomatch h), (fun h => nomatch h), .inl rfl, .inl rfl, .inl rfl, .inr (by kernel_rfl), .inl rfl, (fun h => nomatch h), (fun _ h => nomatch h), .inl rfl⟩
theorem tok248 : TIok Tryz.prog 248 ti248 := ⟨by kernel_rfl, by kernel_rfl, by kernel_rfl, by kernel_rfl, (fun h => nomatch h), (fun h => nomatch h), .inl rfl, .inl rfl, .inl rfl, .inl rfl, .inl rfl, (fun h => nomatch h), (fun _ h => nomatch h), .inl rfl⟩
theorem tok249 : TIok Tryz.prog 249 ti249 := ⟨by kernel_rfl, by kernel_rfl, by kernel_rfl, by kernel_rfl, (fun h => nomatch h), (fun h => nomatch h), .inl rfl, .inl rfl, .inl rfl, .inr (by kernel_rfl), .inl rfl, (fun h => nomatch h), (fun _ h => nomatch h), .inl rfl⟩
theorem tok250 : TIok Tryz.prog 250 ti250 := ⟨by kernel_rfl, by kernel_rfl, by kernel_rfl, by kernel_rfl, (fun h => nomatch h), (fun h => nomatch h), .inl rfl, .inl rfl, .inl rfl, .inr (by kernel_rfl), .inl rfl, (fun h => nomatch h), (fun _ h => nomatch h), .inl rfl⟩
theorem tok251 : TIok Tryz.prog 251 ti251 := ⟨by kernel_rfl, by kernel_rfl, by kernel_rfl, by kernel_rfl, (fun h => nomatch h), (fun h => nomatch h), .inl rfl, .inl rfl, .inl rfl, .inr (by kernel_rfl), .inl rfl, (fun h => nomatch h), (fun _ h => nomatch h), .inl rfl⟩
theorem tok252 : TIok Tryz.prog 252 ti252 := ⟨by kernel_rfl, by kernel_rfl, by kernel_rfl, by kernel_rfl, (fun h => nomatch h), (fun h => nomatch h), .inl rfl, .inl rfl, .inl rfl, .inl rfl, .inl rfl, (fun h => nomatch h), (fun _ h => nomatch h), .inl rfl⟩
theorem tok253 : TIok Tryz.prog 253 ti253 := ⟨by kernel_rfl, by kernel_rfl, by kernel_rfl, by kernel_rfl, (fun h => nomatch h), (fun h => nomatch h), .inl rfl, .inl rfl, .inl rfl, .inr (by kernel_rfl), .inl rfl, (fun h => nomatch h), (fun _ h => nomatch h), .inl rfl⟩
theorem tok254 : TIok Tryz.prog 254 ti254 := ⟨by kernel_rfl, by kernel_rfl, by kernel_rfl, by kernel_rfl, (fun h => nomatch h), (fun h => nomatch h), .inl rfl, .inl rfl, .inl rfl, .inr (by kernel_rfl), .inl rfl, (fun h => nomatch h), (fun _ h => nomatch h), .inl rfl⟩
theorem tok255 : TIok Tryz.prog 255 ti255 := ⟨by kernel_rfl, by kernel_rfl, by kernel_rfl, by kernel_rfl, (fun h => nomatch h), (fun h => nomatch h), .inl rfl, .inl rfl, .inl rfl, .inr (by kernel_rfl), .inl rfl, (fun h => nomatch h), (fun _ h => nomatch h), .inl rfl⟩
theorem tok256 : TIok Tryz.prog 256 ti256 := ⟨by kernel_rfl, by kernel_rfl, by kernel_rfl, by kernel_rfl, (fun h => nomatch h), (fun h => nomatch h), .inl rfl, .inl rfl, .inl rfl, .inr (by kernel_rfl), .inl rfl, (fun h => nomatch h), (fun _ h => nomatch h), .inl rfl⟩
theorem tok257 : TIok Tryz.prog 257 ti257 := ⟨by kernel_rfl, by kernel_rfl, by kernel_rfl, by kernel_rfl, (fun h => nomatch h), (fun h => nomatch h), .inl rfl, .inl rfl, .inl rfl, .inr (by kernel_rfl), .inl rfl, (fun h => nomatch h), (fun _ h => nomatch h), .inl rfl⟩
theorem tok258 : TIok Tryz.prog 258 ti258 := ⟨by kernel_rfl, by kernel_rfl, by kernel_rfl, by kernel_rfl, (fun h => nomatch h), (fun h => nomatch h), .inl rfl, .inl rfl, .inr (fields_of (by kernel_rfl)), .inr (by kernel_rfl), .inr (by kernel_rfl), (fun h => nomatch h), (fun ks h => Option.some.inj h ▸ structEq_of (by kernel_rfl) (by kernel_rfl) (by kernel_rfl)), .inl rfl⟩
theorem tok259 : TIok Tryz.prog 259 ti259 := ⟨by kernel_rfl, by kernel_rfl, by kernel_rfl, by kernel_rfl, (fun h => nomatch h), (fun h => nomatch h), .inl rfl, .inl rfl, .inr (fields_of (by kernel_rfl)), .inr (by kernel_rfl), .inr (by kernel_rfl), (fun h => nomatch h), (fun ks h => Option.some.inj h ▸ structEq_of (by kernel_rfl) (by kernel_rfl) (by kernel_rfl)), .inl rfl⟩
theorem tok260 : TIok Tryz.prog 260 ti260 := ⟨by kernel_rfl, by kernel_rfl, by kernel_rfl, by kernel_rfl, (fun h => nomatch h), (fun h => nomatch h), .inl rfl, .inl rfl, .inl rfl, .inl rfl, .inl rfl, (fun h => nomatch h), (fun _ h => nomatch h), .inl rfl⟩
theorem tok261 : TIok Tryz.prog 261 ti261 := ⟨by kernel_rfl, by kernel_rfl, by kernel_rfl, by kernel_rfl, (fun h => nomatch h), (fun h => nomatch h), .inl rfl, .inl rfl, .inl rfl, .inr (by kernel_rfl), .inl rfl, (fun h => nomatch h), (fun _ h => nomatch h), .inl rfl⟩
theorem tok262 : TIok Tryz.prog 262 ti262 := ⟨by kernel_rfl, by kernel_rfl, by kernel_rfl, by kernel_rfl, (fun h => nomatch h), (fun h => nomatch h), .inl rfl, .inl rfl, .inl rfl, .inr (by kernel_rfl), .inl rfl, (fun h => nomatch h), (fun _ h => nomatch h), .inl rfl⟩
theorem tok263 : TIok Tryz.prog 263 ti263 := ⟨by kernel_rfl, by kernel_rfl, by kernel_rfl, by kernel_rfl, (fun h => nomatch h), (fun h => nomatch h), .inl rfl, .inl rfl, .inl rfl, .inr (by kernel_rfl), .inl rfl, (fun h => nomatch h), (fun _ h => nomatch h), .inl rfl⟩
theorem tok264 : TIok Tryz.prog 264 ti264 := ⟨by kernel_rfl, by kernel_rfl, by kernel_rfl, by kernel_rfl, (fun h => nomatch h), (fun h => nomatch h), .inl rfl, .inl rfl, .inl rfl, .inr (by kernel_rfl), .inl rfl, (fun h => nomatch h), (fun _ h => nomatch h), .inl rfl⟩
theorem tok265 : TIok Tryz.prog 265 ti265 := ⟨by kernel_rfl, by kernel_rfl, by kernel_rfl, by kernel_rfl, (fun h => nomatch h), (fun h => nomatch h), .inl rfl, .inl rfl, .inl rfl, .inr (by kernel_rfl), .inl rfl, (fun h => nomatch h), (fun _ h => nomatch h), .inl rfl⟩
theorem tok266 : TIok Tryz.prog 266 ti266 := ⟨by kernel_rfl, by kernel_rfl, by kernel_rfl, by kernel_rfl, (fun h => nomatch h), (fun h => nomatch h), .inl rfl, .inl rfl, .inl rfl, .inr (by kernel_rfl), .inl rfl, (fun h => nomatch h), (fun _ h => nomatch h), .inl rfl⟩
theorem tok267 : TIok Tryz.prog 267 ti267 := ⟨by kernel_rfl, by kernel_rfl, by kernel_rfl, by kernel_rfl, (fun h => nomatch h), (fun h => nomatch h), .inl rfl, .inl rfl, .inl rfl, .inr (by kernel_rfl), .inl rfl, (fun h => nomatch h), (fun _ h => nomatch h), .inl rfl⟩
theorem tok268 : TIok Tryz.prog 268 ti268 := ⟨by kernel_rfl, by kernel_rfl, by kernel_rfl, by kernel_rfl, (fun h => nomatch h), (fun h => nomatch h), .inl rfl, .inl rfl, .inl rfl, .inr (by kernel_rfl), .inl rfl, (fun h => nomatch h), (fun _ h => nomatch h), .inl rfl⟩
theorem tok269 : TIok Tryz.prog 269 ti269 := ⟨by kernel_rfl, by kernel_rfl, by kernel_rfl, by kernel_rfl, (fun h => nomatch h), (fun h => nomatch h), .inr (by kernel_rfl), .inl rfl, .inl rfl, .inr (by kernel_rfl), .inl rfl, (fun h => nomatch h), (fun _ h => nomatch h), .inl rfl⟩
theorem tok270 : TIok Tryz.prog 270 ti270 := ⟨by kernel_rfl, by kernel_rfl, by kernel_rfl, by kernel_rfl, (fun h => nomatch h), (fun h => nomatch h), .inl rfl, .inl rfl, .inl rfl, .inl rfl, .inl rfl, (fun h => nomatch h), (fun _ h => nomatch h), .inl rfl⟩
theorem tok271 : TIok Tryz.prog 271 ti271 := ⟨by kernel_rfl, by kernel_rfl, by kernel_rfl, by kernel_rfl, (fun h => nomatch h), (fun h => nomatch h), .inl rfl, .inl rfl, .inl rfl, .inr (by kernel_rfl), .inl rfl, (fun h => nomatch h), (fun _ h => nomatch h), .inl rfl⟩
theorem tok272 : TIok Tryz.prog 272 ti272 := ⟨by kernel_rfl, by kernel_rfl, by kernel_rfl, by kernel_rfl, (fun h => nomatch h), (fun h => nomatch h), .inl rfl, .inl rfl, .inl rfl, .inr (by kernel_rfl), .inl rfl, (fun h => nomatch h), (fun _ h => nomatch h), .inl rfl⟩
theorem tok273 : TIok Tryz.prog 273 ti273 := ⟨by kernel_rfl, by kernel_rfl, by kernel_rfl, by kernel_rfl, (fun h => nomatch h), (fun h => nomatch h), .inl rfl, .inl rfl, .inl rfl, .inr (by kernel_rfl), .inl rfl, (fun h => nomatch h), (fun _ h => nomatch h), .inl rfl⟩
theorem tok274 : TIok Tryz.prog 274 ti274 := ⟨by kernel_rfl, by kernel_rfl, by kernel_rfl, by kernel_rfl, (fun h => nomatch h), (fun h => nomatch h), .inl rfl, .inl rfl, .inl rfl, .inr (by kernel_rfl), .inl rfl, (fun h => nomatch h), (fun _ h => nomatch h), .inl rfl⟩
theorem tok275 : TIok Tryz.prog 275 ti275 := ⟨by kernel_rfl, by kernel_rfl, by kernel_rfl, by kernel_rfl, (fun h => nomatch h), (fun h => nomatch h), .inl rfl, .inl rfl, .inl rfl, .inr (by kernel_rfl), .inl rfl, (fun h => nomatch h), (fun _ h => nomatch h), .inl rfl⟩
theorem tok276 : TIok Tryz.prog 276 ti276 := ⟨by kernel_rfl, by kernel_rfl, by kernel_rfl, by kernel_rfl, (fun h => nomatch h), (fun h => nomatch h), .inl rfl, .inl rfl, .inl rfl, .inr (by kernel_rfl), .inl rfl, (fun h => nomatch h), (fun _ h => nomatch h), .inl rfl⟩
theorem tok277 : TIok Tryz.prog 277 ti277 := ⟨by kernel_rfl, by kernel_rfl, by kernel_rfl, by kernel_rfl, (fun h => nomatch h), (fun h => nomatch h), .inl rfl, .inl rfl, .inl rfl, .inr (by kernel_rfl), .inl rfl, (fun h => nomatch h), (fun _ h => nomatch h), .inl rfl⟩
theorem tok278 : TIok Tryz.prog 278 ti278 := ⟨by kernel_rfl, by kernel_rfl, by kernel_rfl, by kernel_rfl, (fun h => nomatch h), (fun h => nomatch h), .inl rfl, .inl rfl, .inl rfl, .inr (by kernel_rfl), .inl rfl, (fun h => nomatch h), (fun _ h => nomatch h), .inl rfl⟩
theorem tok279 : TIok Tryz.prog 279 ti279 := ⟨by kernel_rfl, by kernel_rfl, by kernel_rfl, by kernel_rfl, (fun h => nomatch h), (fun h => nomatch h), .inl rfl, .inl rfl, .inl rfl, .inr (by kernel_rfl), .inl rfl, (fun h => nomatch h), (fun _ h => nomatch h), .inl rfl⟩
theorem tok280 : TIok Tryz.prog 280 ti280 := ⟨by kernel_rfl, by kernel_rfl, by kernel_rfl, by kernel_rfl, (fun h => nomatch h), (fun h => nomatch h), .inl rfl, .inl rfl, .inl rfl, .inr (by kernel_rfl), .inl rfl, (fun h => nomatch h), (fun _ h => nomatch h), .inl rfl⟩
theorem tok281 : TIok Tryz.prog 281 ti281 := ⟨by kernel_rfl, by kernel_rfl, by kernel_rfl, by kernel_rfl, (fun h => nomatch h), (fun h => nomatch h), .inl rfl, .inl rfl, .inl rfl, .inr (by kernel_rfl), .inl rfl, (fun h => nomatch h), (fun _ h => nomatch h), .inl rfl⟩
theorem tok282 : TIok Tryz.prog 282 ti282 := ⟨by kernel_rfl, by kernel_rfl, by kernel_rfl, by kernel_rfl, (fun h => nomatch h), (fun h => nomatch h), .inl rfl, .inl rfl, .inl rfl, .inr (by kernel_rfl), .inl rfl, (fun h => nomatch h), (fun _ h => nomatch h), .inl rfl⟩
theorem tok283 : TIok Tryz.prog 283 ti283 := ⟨by kernel_rfl, by kernel_rfl, by kernel_rfl, by kernel_rfl, (fun h => nomatch h), (fun h => nomatch h), .inl rfl, .inl rfl, .inl rfl, .inr (by kernel_rfl), .inl rfl, (fun h => nomatch h), (fun _ h => nomatch h), .inl rfl⟩
theorem tok284 : TIok Tryz.prog 284 ti284 := ⟨by kernel_rfl, by kernel_rfl, by kernel_rfl, by kernel_rfl, (fun h => nomatch h), (fun h => nomatch h), .inl rfl, .inl rfl, .inl rfl, .inr (by kernel_rfl), .inl rfl, (fun h => nomatch h), (fun _ h => nomatch h), .inl rfl⟩
theorem tok285 : TIok Tryz.prog 285 ti285 := ⟨by kernel_rfl, by kernel_rfl, by kernel_rfl, by kernel_rfl, (fun h => nomatch h), (fun h => nomatch h), .inl rfl, .inl rfl, .inl rfl, .inr (by kernel_rfl), .inl rfl, (fun h => nomatch h), (fun _ h => nomatch h), .inl rfl⟩
theorem tok286 : TIok Tryz.prog 286 ti286 := ⟨by kernel_rfl, by kernel_rfl, by kernel_rfl, by kernel_rfl, (fun h => nomatch h), (fun h => nomatch h), .inl rfl, .inl rfl, .inl rfl, .inr (by kernel_rfl), .inl rfl, (fun h => nomatch h), (fun _ h => nomatch h), .inl rfl⟩
theorem tok287 : TIok Tryz.prog 287 ti287 := ⟨by kernel_rfl, by kernel_rfl, by kernel_rfl, by kernel_rfl, (fun h => nomatch h), (fun h => nomatch h), .inl rfl, .inl rfl, .inr (fields_of (by kernel_rfl)), .inr (by kernel_rfl), .inr (by kernel_rfl), (fun h => nomatch h), (fun ks h => Option.some.inj h ▸ structEq_of (by kernel_rfl) (by kernel_rfl) (by kernel_rfl)), .inl rfl⟩
theorem tok288 : TIok Tryz.prog 288 ti288 := ⟨by kernel_rfl, by kernel_rfl, by kernel_rfl, by kernel_rfl, (fun h => nomatch h), (fun h => nomatch h), .inl rfl, .inl rfl, .inr (fields_of (by kernel_rfl)), .inr (by kernel_rfl), .inr (by kernel_rfl), (fun _ => elemOk_of (by kernel_rfl)), (fun ks h => Option.some.inj h ▸ structEq_of (by kernel_rfl) (by kernel_rfl) (by kernel_rfl)), .inl rfl⟩
theorem tok289 : TIok Tryz.prog 289 ti289 := ⟨by kernel_rfl, by kernel_rfl, by kernel_rfl, by kernel_rfl, (fun h => nomatch h), (fun h => nomatch h), .inl rfl, .inl rfl, .inl rfl, .inr (by kernel_rfl), .inl rfl, (fun h => nomatch h), (fun _ h => nomatch h), .inl rfl⟩
theorem tok290 : TIok Tryz.prog 290 ti290 := ⟨by kernel_rfl, by kernel_rfl, by kernel_rfl, by kernel_rfl, (fun h => nomatch h), (fun h => nomatch h), .inl rfl, .inl rfl, .inl rfl, .inl rfl, .inl rfl, (fun h => nomatch h), (fun _ h => nomatch h), .inl rfl⟩
theorem tok291 : TIok Tryz.prog 291 ti291 := ⟨by kernel_rfl, by kernel_rfl, by kernel_rfl, by kernel_rfl, (fun h => nomatch h), (fun h => nomatch h), .inl rfl, .inl rfl, .inl rfl, .inr (by kernel_rfl), .inl rfl, (fun h => nomatch h), (fun _ h => nomatch h), .inl rfl⟩
theorem tok292 : TIok Tryz.prog 292 ti292 := ⟨by kernel_rfl, by kernel_rfl, by kernel_rfl, by kernel_rfl, (fun h => nomatch h), (fun h => nomatch h), .inl rfl, .inr (by kernel_rfl), .inl rfl, .inr (by kernel_rfl), .inl rfl, (fun h => nomatch h), (fun _ h => nomatch h), .inl rfl⟩
theorem tok293 : TIok Tryz.prog 293 ti293 := ⟨by kernel_rfl, by kernel_rfl, by kernel_rfl, by kernel_rfl, (fun h => nomatch h), (fun h => nomatch h), .inl rfl, .inl rfl, .inr (fields_of (by kernel_rfl)), .inr (by kernel_rfl), .inr (by kernel_rfl), (fun h => nomatch h), (fun ks h => Option.some.inj h ▸ structEq_of (by kernel_rfl) (by kernel_rfl) (by kernel_rfl)), .inl rfl⟩
theorem tok294 : TIok Tryz.prog 294 ti294 := ⟨by kernel_rfl, by kernel_rfl, by kernel_rfl, by kernel_rfl, (fun h => nomatch h), (fun h => nomatch h), .inl rfl, .inl rfl, .inr (fields_of (by kernel_rfl)), .inr (by kernel_rfl), .inr (by kernel_rfl), (fun _ => elemOk_of (by kernel_rfl)), (fun ks h => Option.some.inj h ▸ structEq_of (by kernel_rfl) (by kernel_rfl) (by kernel_rfl)), .inl rfl⟩
theorem tok295 : TIok Tryz.prog 295 ti295 := ⟨by kernel_rfl, by kernel_rfl, by kernel_rfl, by kernel_rfl, (fun h => nomatch h), (fun h => nomatch h), .inl rfl, .inl rfl, .inl rfl, .inr (by kernel_rfl), .inl rfl, (fun h => nomatch h), (fun _ h => nomatch h), .inl rfl⟩
theorem tok296 : TIok Tryz.prog 296 ti296 := ⟨by kernel_rfl, by kernel_rfl, by kernel_rfl, by kernel_rfl, (fun h => nomatch h), (fun h => nomatch h), .inl rfl, .inl rfl, .inl rfl, .inr (by kernel_rfl), .inl rfl, (fun h => nomatch h), (fun _ h => nomatch h), .inl rfl⟩
theorem tok297 : TIok Tryz.prog 297 ti297 := ⟨by kernel_rfl, by kernel_rfl, by kernel_rfl, by kernel_rfl, (fun h => nomatch h), (fun h => nomatch h), .inl rfl, .inl rfl, .inl rfl, .inr (by kernel_rfl), .inl rfl, (fun h => nomatch h), (fun _ h => nomatch h), .inl rfl⟩
theorem tok298 : TIok Tryz.prog 298 ti298 := ⟨by kernel_rfl, by kernel_rfl, by kernel_rfl, by kernel_rfl, (fun h => nomatch h), (fun h => nomatch h), .inl rfl, .inl rfl, .inl rfl, .inr (by kernel_rfl), .inl rfl, (fun h => nomatch h), (fun _ h => nomatch h), .inl rfl⟩
theorem tok299 : TIok Tryz.prog 299 ti299 := ⟨by kernel_rfl, by kernel_rfl, by kernel_rfl, by kernel_rfl, (fun h => nomatch h), (fun h => nomatch h), .inl rfl, .inl rfl, .inl rfl, .inl rfl, .inl rfl, (fun h => nomatch h), (fun _ h => nomatch h), .inl rfl⟩
theorem tok300 : TIok Tryz.prog 300 ti300 := ⟨by kernel_rfl, by kernel_rfl, by kernel_rfl, by kernel_rfl, (fun h => nomatch h), (fun h => nomatch h), .inl rfl, .inl rfl, .inl rfl, .inr (by kernel_rfl), .inl rfl, (fun h => nomatch h), (fun _ h => nomatch h), .inl rfl⟩
theorem tok301 : TIok Tryz.prog 301 ti301 := ⟨by kernel_rfl, by kernel_rfl, by kernel_rfl, by kernel_rfl, (fun h => nomatch h), (fun h => nomatch h), .inl rfl, .inl rfl, .inl rfl, .inr (by kernel_rfl), .inl rfl, (fun h => nomatch h), (fun _ h => nomatch h), .inl rfl⟩
theorem tok302 : TIok Tryz.prog 302 ti302 := ⟨by kernel_rfl, by kernel_rfl, by kernel_rfl, by kernel_rfl, (fun h => nomatch h), (fun h => nomatch h), .inl rfl, .inl rfl, .inl rfl, .inr (by kernel_rfl), .inl rfl, (fun h => nomatch h), (fun _ h => nomatch h), .inl rfl⟩
theorem tok303 : TIok Tryz.prog 303 ti303 := ⟨by kernel_rfl, by kernel_rfl, by kernel_rfl, by kernel_rfl, (fun h => nomatch h), (fun h => nomatch h), .inl rfl, .inl rfl, .inl rfl, .inr (by kernel_rfl), .inl rfl, (fun h => nomatch h), (fun _ h => nomatch h), .inl rfl⟩
theorem tok304 : TIok Tryz.prog 304 ti304 := ⟨by kernel_rfl, by kernel_rfl, by kernel_rfl, by kernel_rfl, (fun h => nomatch h), (fun h => nomatch h), .inl rfl, .inl rfl, .inl rfl, .inr (by kernel_rfl), .inl rfl, (fun h => nomatch h), (fun _ h => nomatch h), .inl rfl⟩
theorem tok305 : TIok Tryz.prog 305 ti305 := ⟨by kernel_rfl, by kernel_rfl, by kernel_rfl, by kernel_rfl, (fun h => nomatch h), (fun h => nomatch h), .inl rfl, .inl rfl, .inl rfl, .inr (by kernel_rfl), .inl rfl, (fun h => nomatch h), (fun _ h => nomatch h), .inl rfl⟩
theorem tok306 : TIok Tryz.prog 306 ti306 := ⟨by kernel_rfl, by kernel_rfl, by kernel_rfl, by kernel_rfl, (fun h => nomatch h), (fun h => nomatch h), .inl rfl, .inl rfl, .inl rfl, .inr (by kernel_rfl), .inl rfl, (fun h => nomatch h), (fun _ h => nomatch h), .inl rfl⟩
theorem tok307 : TIok Tryz.prog 307 ti307 := ⟨by kernel_rfl, by kernel_rfl, by kernel_rfl, by kernel_rfl, (fun h => nomatch h), (fun h => nomatch h), .inl rfl, .inl rfl, .inl rfl, .inl rfl, .inl rfl, (fun h => nomatch h), (fun _ h => nomatch h), .inl rfl⟩
theorem tok308 : TIok Tryz.prog 308 ti308 := ⟨by kernel_rfl, by kernel_rfl, by kernel_rfl, by kernel_rfl, (fun h => nomatch h), (fun h => nomatch h), .inl rfl, .inl rfl, .inl rfl, .inr (by kernel_rfl), .inl rfl, (fun h => nomatch h), (fun _ h => nomatch h), .inl rfl⟩
theorem tok309 : TIok Tryz.prog 309 ti309 := ⟨by kernel_rfl, by kernel_rfl, by kernel_rfl, by kernel_rfl, (fun h => nomatch h), (fun h => nomatch h), .inr (by kernel_rfl), .inl rfl, .inl rfl, .inr (by kernel_rfl), .inl rfl, (fun h => nomatch h), (fun _ h => nomatch h), .inl rfl⟩
theorem tok310 : TIok Tryz.prog 310 ti310 := ⟨by kernel_rfl, by kernel_rfl, by kernel_rfl, by kernel_rfl, (fun h => nomatch h), (fun h => nomatch h), .inl rfl, .inl rfl, .inl rfl, .inr (by kernel_rfl), .inl rfl, (fun h => nomatch h), (fun _ h => nomatch h), .inl rfl⟩
theorem tok311 : TIok Tryz.prog 311 ti311 := ⟨by kernel_rfl, by kernel_rfl, by kernel_rfl, by kernel_rfl, (fun h => nomatch h), (fun h => nomatch h), .inl rfl, .inl rfl, .inl rfl, .inr (by kernel_rfl), .inl rfl, (fun h => nomatch h), (fun _ h => nomatch h), .inl rfl⟩
theorem tok312 : TIok Tryz.prog 312 ti312 := ⟨by kernel_rfl, by kernel_rfl, by kernel_rfl, by kernel_rfl, (fun h => nomatch h), (fun h => nomatch h), .inl rfl, .inl rfl, .inl rfl, .inr (by kernel_rfl), .inl rfl, (fun h => nomatch h), (fun _ h => nomatch h), .inl rfl⟩
theorem tok313 : TIok Tryz.prog 313 ti313 := ⟨by kernel_rfl, by kernel_rfl, by kernel_rfl, by kernel_rfl, (fun h => nomatch h), (fun h => nomatch h), .inl rfl, .inl rfl, .inl rfl, .inl rfl, .inl rfl, (fun h => nomatch h), (fun _ h => nomatch h), .inl rfl⟩
theorem tok314 : TIok Tryz.prog 314 ti314 := ⟨by kernel_rfl, by kernel_rfl, by kernel_rfl, by kernel_rfl, (fun h => nomatch h), (fun h => nomatch h), .inl rfl, .inl rfl, .inl rfl, .inr (by kernel_rfl), .inl rfl, (fun h => nomatch h), (fun _ h => nomatch h), .inl rfl⟩
theorem tok315 : TIok Tryz.prog 315 ti315 := ⟨by kernel_rfl, by kernel_rfl, by kernel_rfl, by kernel_rfl, (fun h => nomatch h), (fun h => nomatch h), .inl rfl, .inl rfl, .inl rfl, .inr (by kernel_rfl), .inl rfl, (fun h => nomatch h), (fun _ h => nomatch h), .inl rfl⟩
theorem tok316 : TIok Tryz.prog 316 ti316 := ⟨by kernel_rfl, by kernel_rfl, by kernel_rfl, by kernel_rfl, (fun h => nomatch h), (fun h => nomatch h), .inl rfl, .inl rfl, .inl rfl, .inr (by kernel_rfl), .inl rfl, (fun h => nomatch h), (fun _ h => nomatch h), .inl rfl⟩
theorem tok317 : TIok Tryz.prog 317 ti317 := ⟨by kernel_rfl, by kernel_rfl, by kernel_rfl, by kernel_rfl, (fun h => nomatch h), (fun h => nomatch h), .inl rfl, .inl rfl, .inl rfl, .inr (by kernel_rfl), .inl rfl, (fun h => nomatch h), (fun _ h => nomatch h), .inl rfl⟩
theorem tok318 : TIok Tryz.prog 318 ti318 := ⟨by kernel_rfl, by kernel_rfl, by kernel_rfl, by kernel_rfl, (fun h => nomatch h), (fun h => nomatch h), .inl rfl, .inl rfl, .inl rfl, .inr (by kernel_rfl), .inl rfl, (fun h => nomatch h), (fun _ h => nomatch h), .inl rfl⟩
theorem tok319 : TIok Tryz.prog 319 ti319 := ⟨by kernel_rfl, by kernel_rfl, by kernel_rfl, by kernel_rfl, (fun h => nomatch h), (fun h => nomatch h), .inl rfl, .inl rfl, .inl rfl, .inr (by kernel_rfl), .inl rfl, (fun h => nomatch h), (fun _ h => nomatch h), .inl rfl⟩
theorem tok320 : TIok Tryz.prog 320 ti320 := ⟨by kernel_rfl, by kernel_rfl, by kernel_rfl, by kernel_rfl, (fun h => nomatch h), (fun h => nomatch h), .inl rfl, .inl rfl, .inl rfl, .inr (by kernel_rfl), .inl rfl, (fun h => nomatch h), (fun _ h => nomatch h), .inl rfl⟩
theorem tok321 : TIok Tryz.prog 321 ti321 := ⟨by kernel_rfl, by kernel_rfl, by kernel_rfl, by kernel_rfl, (fun h => nomatch h), (fun h => nomatch h), .inl rfl, .inl rfl, .inl rfl, .inr (by kernel_rfl), .inl rfl, (fun h => nomatch h), (fun _ h => nomatch h), .inl rfl⟩
theorem tok322 : TIok Tryz.prog 322 ti322 := ⟨by kernel_rfl, by kernel_rfl, by kernel_rfl, by kernel_rfl, (fun h => nomatch h), (fun h => nomatch h), .inl rfl, .inl rfl, .inl rfl, .inl rfl, .inl rfl, (fun h => nomatch h), (fun _ h => nomatch h), .inl rfl⟩
theorem tok323 : TIok Tryz.prog 323 ti323 := ⟨by kernel_rfl, by kernel_rfl, by kernel_rfl, by kernel_rfl, (fun h => nomatch h), (fun h => nomatch h), .inl rfl, .inl rfl, .inl rfl, .inr (by kernel_rfl), .inl rfl, (fun h => nomatch h), (fun _ h => nomatch h), .inl rfl⟩
theorem tok324 : TIok Tryz.prog 324 ti324 := ⟨by kernel_rfl, by kernel_rfl, by kernel_rfl, by kernel_rfl, (fun h => nomatch h), (fun h => nomatch h), .inl rfl, .inl rfl, .inl rfl, .inr (by kernel_rfl), .inl rfl, (fun h => nomatch h), (fun _ h => nomatch h), .inl rfl⟩
theorem tok325 : TIok Tryz.prog 325 ti325 := ⟨by kernel_rfl, by kernel_rfl, by kernel_rfl, by kernel_rfl, (fun h => nomatch h), (fun h => nomatch h), .inl rfl, .inl rfl, .inl rfl, .inr (by kernel_rfl), .inl rfl, (fun h => nomatch h), (fun _ h => nomatch h), .inl rfl⟩
theorem tok326 : TIok Tryz.prog 326 ti326 := ⟨by kernel_rfl, by kernel_rfl, by kernel_rfl, by kernel_rfl, (fun h => nomatch h), (fun h => nomatch h), .inl rfl, .inl rfl, .inl rfl, .inr (by kernel_rfl), .inl rfl, (fun h => nomatch h), (fun _ h => nomatch h), .inl rfl⟩
theorem tok327 : TIok Tryz.prog 327 ti327 := ⟨by kernel_rfl, by kernel_rfl, by kernel_rfl, by kernel_rfl, (fun h => nomatch h), (fun h => nomatch h), .inl rfl, .inl rfl, .inl rfl, .inr (by kernel_rfl), .inr (by kernel_rfl), (fun h => nomatch h), (fun _ h => nomatch h), .inr (by kernel_rfl)⟩
theorem tok328 : TIok Tryz.prog 328 ti328 := ⟨by kernel_rfl, by kernel_rfl, by kernel_rfl, by kernel_rfl, (fun h => nomatch h), (fun h => nomatch h), .inl rfl, .inl rfl, .inl rfl, .inl rfl, .inl rfl, (fun h => nomatch h), (fun _ h => nomatch h), .inl rfl⟩
theorem tok329 : TIok Tryz.prog 329 ti329 := ⟨by kernel_rfl, by kernel_rfl, by kernel_rfl, by kernel_rfl, (fun h => nomatch h), (fun h => nomatch h), .inl rfl, .inl rfl, .inl rfl, .inl rfl, .inl rfl, (fun h => nomatch h), (fun _ h => nomatch h), .inl rfl⟩
theorem tok330 : TIok Tryz.prog 330 ti330 := ⟨by kernel_rfl, by kernel_rfl, by kernel_rfl, by kernel_rfl, (fun h => nomatch h), (fun h => nomatch h), .inl rfl, .inl rfl, .inl rfl, .inr (by kernel_rfl), .inl rfl, (fun h => nomatch h), (fun _ h => nomatch h), .inl rfl⟩
theorem tok331 : TIok Tryz.prog 331 ti331 := ⟨by kernel_rfl, by kernel_rfl, by kernel_rfl, by kernel_rfl, (fun h => nomatch h), (fun h => nomatch h), .inl rfl, .inl rfl, .inl rfl, .inr (by kernel_rfl), .inl rfl, (fun h => nomatch h), (fun _ h => nomatch h), .inl rfl⟩
theorem tok332 : TIok Tryz.prog 332 ti332 := ⟨by kernel_rfl, by kernel_rfl, by kernel_rfl, by kernel_rfl, (fun h => nomatch h), (fun h => nomatch h), .inl rfl, .inl rfl, .inl rfl, .inr (by kernel_rfl), .inl rfl, (fun h => nomatch h), (fun _ h => nomatch h), .inl rfl⟩
theorem tok333 : TIok Tryz.prog 333 ti333 := ⟨by kernel_rfl, by kernel_rfl, by kernel_rfl, by kernel_rfl, (fun h => nomatch h), (fun h => nomatch h), .inl rfl, .inl rfl, .inl rfl, .inr (by kernel_rfl), .inl rfl, (fun h => nomatch h), (fun _ h => nomatch h), .inl rfl⟩
theorem tok334 : TIok Tryz.prog 334 ti334 := ⟨by kernel_rfl, by kernel_rfl, by kernel_rfl, by kernel_rfl, (fun h => nomatch h), (fun h => nomatch h), .inl rfl, .inl rfl, .inl rfl, .inr (by kernel_rfl), .inl rfl, (fun h => nomatch h), (fun _ h => nomatch h), .inl rfl⟩
theorem tok335 : TIok Tryz.prog 335 ti335 := ⟨by kernel_rfl, by kernel_rfl, by kernel_rfl, by kernel_rfl, (fun h => nomatch h), (fun h => nomatch h), .inl rfl, .inl rfl, .inl rfl, .inr (by kernel_rfl), .inl rfl, (fun h => nomatch h), (fun _ h => nomatch h), .inl rfl⟩
theorem tok336 : TIok Tryz.prog 336 ti336 := ⟨by kernel_rfl, by kernel_rfl, by kernel_rfl, by kernel_rfl, (fun h => nomatch h), (fun h => nomatch h), .inl rfl, .inl rfl, .inl rfl, .inr (by kernel_rfl), .inl rfl, (fun h => nomatch h), (fun _ h => nomatch h), .inl rfl⟩
theorem tok337 : TIok Tryz.prog 337 ti337 := ⟨by kernel_rfl, by kernel_rfl, by kernel_rfl, by kernel_rfl, (fun h => nomatch h), (fun h => nomatch h), .inl rfl, .inl rfl, .inl rfl, .inr (by kernel_rfl), .inl rfl, (fun h => nomatch h), (fun _ h => nomatch h), .inl rfl⟩
theorem tok338 : TIok Tryz.prog 338 ti338 := ⟨by kernel_rfl, by kernel_rfl, by kernel_rfl, by kernel_rfl, (fun h => nomatch h), (fun h => nomatch h), .inl rfl, .inl rfl, .inl rfl, .inr (by kernel_rfl), .inl rfl, (fun h => nomatch h), (fun _ h => nomatch h), .inl rfl⟩
theorem tok339 : TIok Tryz.prog 339 ti339 := ⟨by kernel_rfl, by kernel_rfl, by kernel_rfl, by kernel_rfl, (fun h => nomatch h), (fun h => nomatch h), .inl rfl, .inl rfl, .inl rfl, .inr (by kernel_rfl), .inl rfl, (fun h => nomatch h), (fun _ h => nomatch h), .inl rfl⟩
theorem tok340 : TIok Tryz.prog 340 ti340 := ⟨by kernel_rfl, by kernel_rfl, by kernel_rfl, by kernel_rfl, (fun h => nomatch h), (fun h => nomatch h), .inl rfl, .inl rfl, .inl rfl, .inr (by kernel_rfl), .inl rfl, (fun h => nomatch h), (fun _ h => nomatch h), .inl rfl⟩
theorem tok341 : TIok Tryz.prog 341 ti341 := ⟨by kernel_rfl, by kernel_rfl, by kernel_rfl, by kernel_rfl, (fun h => nomatch h), (fun h => nomatch h), .inl rfl, .inl rfl, .inl rfl, .inr (by kernel_rfl), .inl rfl, (fun h => nomatch h), (fun _ h => nomatch h), .inl rfl⟩
theorem tok342 : TIok Tryz.prog 342 ti342 := ⟨by kernel_rfl, by kernel_rfl, by kernel_rfl, by kernel_rfl, (fun h => nomatch h), (fun h => nomatch h), .inl rfl, .inl rfl, .inl rfl, .inr (by kernel_rfl), .inl rfl, (fun h => nomatch h), (fun _ h => nomatch h), .inl rfl⟩
theorem tok343 : TIok Tryz.prog 343 ti343 := ⟨by kernel_rfl, by kernel_rfl, by kernel_rfl, by kernel_rfl, (fun h => nomatch h), (fun h => nomatch h), .inl rfl, .inl rfl, .inl rfl, .inr (by kernel_rfl), .inl rfl, (fun h => nomatch h), (fun _ h => nomatch h), .inl rfl⟩
theorem tok344 : TIok Tryz.prog 344 ti344 := ⟨by kernel_rfl, by kernel_rfl, by kernel_rfl, by kernel_rfl, (fun h => nomatch h), (fun h => nomatch h), .inl rfl, .inl rfl, .inl rfl, .inr (by kernel_rfl), .inl rfl, (fun h => nomatch h), (fun _ h => nomatch h), .inl rfl⟩
theorem tok345 : TIok Tryz.prog 345 ti345 := ⟨by kernel_rfl, by kernel_rfl, by kernel_rfl, by kernel_rfl, (fun h => nomatch h), (fun h => nomatch h), .inl rfl, .inl rfl, .inl rfl, .inr (by kernel_rfl), .inl rfl, (fun h => nomatch h), (fun _ h => nomatch h), .inl rfl⟩
theorem tok346 : TIok Tryz.prog 346 ti346 := ⟨by kernel_rfl, by kernel_rfl, by kernel_rfl, by kernel_rfl, (fun h => nomatch h), (fun h => nomatch h), .inl rfl, .inl rfl, .inl rfl, .inl rfl, .inl rfl, (fun h => nomatch h), (fun _ h => nomatch h), .inl rfl⟩
theorem tok347 : TIok Tryz.prog 347 ti347 := ⟨by kernel_rfl, by kernel_rfl, by kernel_rfl, by kernel_rfl, (fun h => nomatch h), (fun h => nomatch h), .inl rfl, .inl rfl, .inr (fields_of (by kernel_rfl)), .inl rfl, .inl rfl, (fun h => nomatch h), (fun _ h => nomatch h), .inl rfl⟩
theorem tok348 : TIok Tryz.prog 348 ti348 := ⟨by kernel_rfl, by kernel_rfl, by kernel_rfl, by kernel_rfl, (fun h => nomatch h), (fun h => nomatch h), .inl rfl, .inl rfl, .inr (fields_of (by kernel_rfl)), .inl rfl, .inl rfl, (fun h => nomatch h), (fun _ h => nomatch h), .inl rfl⟩
theorem tok349 : TIok Tryz.prog 349 ti349 := ⟨by kernel_rfl, by kernel_rfl, by kernel_rfl, by kernel_rfl, (fun h => nomatch h), (fun h => nomatch h), .inl rfl, .inl rfl, .inl rfl, .inr (by kernel_rfl), .inr (by kernel_rfl), (fun h => nomatch h), (fun _ h => nomatch h), .inr (by kernel_rfl)⟩
theorem tok350 : TIok Tryz.prog 350 ti350 := ⟨by kernel_rfl, by kernel_rfl, by kernel_rfl, by kernel_rfl, (fun h => nomatch h), (fun h => nomatch h), .inl rfl, .inl rfl, .inr (fields_of (by kernel_rfl)), .inr (by kernel_rfl), .inr (by kernel_rfl), (fun h => nomatch h), (fun _ h => nomatch h), .inl rfl⟩
theorem tok351 : TIok Tryz.prog 351 ti351 := ⟨by kernel_rfl, by kernel_rfl, by kernel_rfl, by kernel_rfl, (fun h => nomatch h), (fun h => nomatch h), .inl rfl, .inl rfl, .inr (fields_of (by kernel_rfl)), .inr (by kernel_rfl), .inr (by kernel_rfl), (fun h => nomatch h), (fun _ h => nomatch h), .inl rfl⟩
theorem tok352 : TIok Tryz.prog 352 ti352 := ⟨by kernel_rfl, by kernel_rfl, by kernel_rfl, by kernel_rfl, (fun h => nomatch h), (fun h => nomatch h), .inl rfl, .inl rfl, .inl rfl, .inr (by kernel_rfl), .inl rfl, (fun h => nomatch h), (fun _ h => nomatch h), .inl rfl⟩
theorem tok353 : TIok Tryz.prog 353 ti353 := ⟨by kernel_rfl, by kernel_rfl, by kernel_rfl, by kernel_rfl, (fun h => nomatch h), (fun h => nomatch h), .inr (by kernel_rfl), .inl rfl, .inl rfl, .inr (by kernel_rfl), .inl rfl, (fun h => nomatch h), (fun _ h => nomatch h), .inl rfl⟩
theorem tok354 : TIok Tryz.prog 354 ti354 := ⟨by kernel_rfl, by kernel_rfl, by kernel_rfl, by kernel_rfl, (fun h => nomatch h), (fun h => nomatch h), .inr (by kernel_rfl), .inl rfl, .inl rfl, .inr (by kernel_rfl), .inl rfl, (fun h => nomatch h), (fun _ h => nomatch h), .inl rfl⟩
theorem tok355 : TIok Tryz.prog 355 ti355 := ⟨by kernel_rfl, by kernel_rfl, by kernel_rfl, by kernel_rfl, (fun h => nomatch h), (fun h => nomatch h), .inl rfl, .inl rfl, .inl rfl, .inr (by kernel_rfl), .inl rfl, (fun h => nomatch h), (fun _ h => nomatch h), .inl rfl⟩
theorem tok356 : TIok Tryz.prog 356 ti356 := ⟨by kernel_rfl, by kernel_rfl, by kernel_rfl, by kernel_rfl, (fun h => nomatch h), (fun h => nomatch h), .inl rfl, .inl rfl, .inl rfl, .inl rfl, .inl rfl, (fun h => nomatch h), (fun _ h => nomatch h), .inl rfl⟩
theorem tok357 : TIok Tryz.prog 357 ti357 := ⟨by kernel_rfl, by kernel_rfl, by kernel_rfl, by kernel_rfl, (fun h => nomatch h), (fun h => nomatch h), .inr (by kernel_rfl), .inl rfl, .inl rfl, .inr (by kernel_rfl), .inl rfl, (fun h => nomatch h), (fun _ h => nomatch h), .inl rfl⟩
theorem tok358 : TIok Tryz.prog 358 ti358 := ⟨by kernel_rfl, by kernel_rfl, by kernel_rfl, by kernel_rfl, (fun h => nomatch h), (fun h => nomatch h), .inr (by kernel_rfl), .inl rfl, .inl rfl, .inr (by kernel_rfl), .inl rfl, (fun h => nomatch h), (fun _ h => nomatch h), .inl rfl⟩
theorem tok359 : TIok Tryz.prog 359 ti359 := ⟨by kernel_rfl, by kernel_rfl, by kernel_rfl, by kernel_rfl, (fun h => nomatch h), (fun h => nomatch h), .inl rfl, .inl rfl, .inl rfl, .inl rfl, .inl rfl, (fun h => nomatch h), (fun _ h => nomatch h), .inl rfl⟩
theorem tok360 : TIok Tryz.prog 360 ti360 := ⟨by kernel_rfl, by kernel_rfl, by kernel_rfl, by kernel_rfl, (fun h => nomatch h), (fun h => nomatch h), .inl rfl, .inl rfl, .inl rfl, .inl rfl, .inl rfl, (fun h => nomatch h), (fun _ h => nomatch h), .inl rfl⟩
theorem tok361 : TIok Tryz.prog 361 ti361 := ⟨by kernel_rfl, by kernel_rfl, by kernel_rfl, by kernel_rfl, (fun h => nomatch h), (fun h => nomatch h), .inl rfl, .inl rfl, .inr (fields_of (by kernel_rfl)), .inr (by kernel_rfl), .inr (by kernel_rfl), (fun h => nomatch h), (fun ks h => Option.some.inj h ▸ structEq_of (by kernel_rfl) (by kernel_rfl) (by kernel_rfl)), .inl rfl⟩
theorem tok362 : TIok Tryz.prog 362 ti362 := ⟨by kernel_rfl, by kernel_rfl, by kernel_rfl, by kernel_rfl, (fun h => nomatch h), (fun h => nomatch h), .inl rfl, .inl rfl, .inr (fields_of (by kernel_rfl)), .inr (by kernel_rfl), .inr (by kernel_rfl), (fun h => nomatch h), (fun ks h => Option.some.inj h ▸ structEq_of (by kernel_rfl) (by kernel_rfl) (by kernel_rfl)), .inl rfl⟩
theorem tok363 : TIok Tryz.prog 363 ti363 := ⟨by kernel_rfl, by kernel_rfl, by kernel_rfl, by kernel_rfl, (fun h => nomatch h), (fun h => nomatch h), .inl rfl, .inl rfl, .inl rfl, .inl rfl, .inl rfl, (fun h => nomatch h), (fun _ h => nomatch h), .inl rfl⟩
theorem tinfo_some {T : Tb} {t : TypeId} {i : TI} (h : tinfo T t = some i) : ∃ l, T[t / 16]? = some l ∧ l[t % 16]? = some (some i) := by
  unfold tinfo at h
  rw [lkO_eq] at h
  split at h
  · rename_i l hl
    rw [lkO_eq] at h
    split at h
    · rename_i j hj; exact ⟨l, hl, by rw [hj, h]⟩
    · simp at h
  · simp at h
theorem row0 : ∀ (j : Nat) (i : TI), ([some ti0, some ti1, some ti2, some ti3, some ti4, some ti5, some ti6, some ti7, some ti8, some ti9, some ti10, some ti11, some ti12, some ti13, some ti14, some ti15] : List (Option TI))[j]? = some (some i) → TIok Tryz.prog (0 + j) i := by
  intro j i h
  match j, h with
  | 0, h => simp at h; subst h; exact tok0
  | 1, h => simp at h; subst h; exact tok1
  | 2, h => simp at h; subst h; exact tok2
  | 3, h => simp at h; subst h; exact tok3
  | 4, h => simp at h; subst h; exact tok4
  | 5, h => simp at h; subst h; exact tok5
  | 6, h => simp at h; subst h; exact tok6
  | 7, h => simp at h; subst h; exact tok7
  | 8, h => simp at h; subst h; exact tok8
  | 9, h => simp at h; subst h; exact tok9
  | 10, h => simp at h; subst h; exact tok10
  | 11, h => simp at h; subst h; exact tok11
  | 12, h => simp at h; subst h; exact tok12
  | 13, h => simp at h; subst h; exact tok13
  | 14, h => simp at h; subst h; exact tok14
  | 15, h => simp at h; subst h; exact tok15
  | j + 16, h => simp at h
theorem row1 : ∀ (j : Nat) (i : TI), ([some ti16, some ti17, some ti18, some ti19, some ti20, some ti21, some ti22, some ti23, some ti24, some ti25, some ti26, some ti27, some ti28, some ti29, some ti30, some ti31] : List (Option TI))[j]? = some (some i) → TIok Tryz.prog (16 + j) i := by
  intro j i h
  match j, h with
  | 0, h => simp at h; subst h; exact tok16
  | 1, h => simp at h; subst h; exact tok17
  | 2, h => simp at h; subst h; exact tok18
  | 3, h => simp at h; subst h; exact tok19
  | 4, h => simp at h; subst h; exact tok20
  | 5, h => simp at h; subst h; exact tok21
  | 6, h => simp at h; subst h; exact tok22
  | 7, h => simp at h; subst h; exact tok23
  | 8, h => simp at h; subst h; exact tok24
  | 9, h => simp at h; subst h; exact tok25
  | 10, h => simp at h; subst h; exact tok26
  | 11, h => simp at h; subst h; exact tok27
  | 12, h => simp at h; subst h; exact tok28
  | 13, h => simp at h; subst h; exact tok29
  | 14, h => simp at h; subst h; exact tok30
  | 15, h => simp at h; subst h; exact tok31
  | j + 16, h => simp at h
theorem row2 : ∀ (j : Nat) (i : TI), ([some ti32, some ti33, some ti34, some ti35, some ti36, some ti37, some ti38, some ti39, some ti40, some ti41, some ti42, some ti43, some ti44, some ti45, some ti46, some ti47] : List (Option TI))[j]? = some (some i) → TIok Tryz.prog (32 + j) i := by
  intro j i h
  match j, h with
  | 0, h => simp at h; subst h; exact tok32
  | 1, h => simp at h; subst h; exact tok33
  | 2, h => simp at h; subst h; exact tok34
  | 3, h => simp at h; subst h; exact tok35
  | 4, h => simp at h; subst h; exact tok36
  | 5, h => simp at h; subst h; exact tok37
  | 6, h => simp at h; subst h; exact tok38
  | 7, h => simp at h; subst h; exact tok39
  | 8, h => simp at h; subst h; exact tok40
  | 9, h => simp at h; subst h; exact tok41
  | 10, h => simp at h; subst h; exact tok42
  | 11, h => simp at h; subst h; exact tok43
  | 12, h => simp at h; subst h; exact tok44
  | 13, h => simp at h; subst h; exact tok45
  | 14, h => simp at h; subst h; exact tok46
  | 15, h => simp at h; subst h; exact tok47
  | j + 16, h => simp at h
theorem row3 : ∀ (j : Nat) (i : TI), ([some ti48, some ti49, some ti50, some ti51, some ti52, some ti53, some ti54, some ti55, some ti56, some ti57, some ti58, some ti59, some ti60, some ti61, some ti62, some ti63] : List (Option TI))[j]? = some (some i) → TIok Tryz.prog (48 + j) i := by
  intro j i h
  match j, h with
  | 0, h => simp at h; subst h; exact tok48
  | 1, h => simp at h; subst h; exact tok49
  | 2, h => simp at h; subst h; exact tok50
  | 3, h => simp at h; subst h; exact tok51
  | 4, h => simp at h; subst h; exact tok52
  | 5, h => simp at h; subst h; exact tok53
  | 6, h => simp at h; subst h; exact tok54
  | 7, h => simp at h; subst h; exact tok55
  | 8, h => simp at h; subst h; exact tok56
  | 9, h => simp at h; subst h; exact tok57
  | 10, h => simp at h; subst h; exact tok58
  | 11, h => simp at h; subst h; exact tok59
  | 12, h => simp at h; subst h; exact tok60
  | 13, h => simp at h; subst h; exact tok61
  | 14, h => simp at h; subst h; exact tok62
  | 15, h => simp at h; subst h; exact tok63
  | j + 16, h => simp at h
theorem row4 : ∀ (j : Nat) (i : TI), ([some ti64, some ti65, some ti66, some ti67, some ti68, some ti69, some ti70, some ti71, some ti72, some ti73, some ti74, some ti75, some ti76, some ti77, some ti78, some ti79] : List (Option TI))[j]? = some (some i) → TIok Tryz.prog (64 + j) i := by
  intro j i h
  match j, h with
  | 0, h => simp at h; subst h; exact tok64
  | 1, h => simp at h; subst h; exact tok65
  | 2, h => simp at h; subst h; exact tok66
  | 3, h => simp at h; subst h; exact tok67
  | 4, h => simp at h; subst h; exact tok68
  | 5, h => simp at h; subst h; exact tok69
  | 6, h => simp at h; subst h; exact tok70
  | 7, h => simp at h; subst h; exact tok71
  | 8, h => simp at h; subst h; exact tok72
  | 9, h => simp at h; subst h; exact tok73
  | 10, h => simp at h; subst h; exact tok74
  | 11, h => simp at h; subst h; exact tok75
  | 12, h => simp at h; subst h; exact tok76
  | 13, h => simp at h; subst h; exact tok77
  | 14, h => simp at h; subst h; exact tok78
  | 15, h => simp at h; subst h; exact tok79
  | j + 16, h => simp at h
theorem row5 : ∀ (j : Nat) (i : TI), ([some ti80, some ti81, some ti82, some ti83, some ti84, some ti85, some ti86, some ti87, some ti88, some ti89, some ti90, some ti91, some ti92, some ti93, some ti94, some ti95] : List (Option TI))[j]? = some (some i) → TIok Tryz.prog (80 + j) i := by
  intro j i h
  match j, h with
  | 0, h => simp at h; subst h; exact tok80
  | 1, h => simp at h; subst h; exact tok81
  | 2, h => simp at h; subst h; exact tok82
  | 3, h => simp at h; subst h; exact tok83
  | 4, h => simp at h; subst h; exact tok84
  | 5, h => simp at h; subst h; exact tok85
  | 6, h => simp at h; subst h; exact tok86
  | 7, h => simp at h; subst h; exact tok87
  | 8, h => simp at h; subst h; exact tok88
  | 9, h => simp at h; subst h; exact tok89
  | 10, h => simp at h; subst h; exact tok90
  | 11, h => simp at h; subst h; exact tok91
  | 12, h => simp at h; subst h; exact tok92
  | 13, h => simp at h; subst h; exact tok93
  | 14, h => simp at h; subst h; exact tok94
  | 15, h => simp at h; subst h; exact tok95
  | j + 16, h => simp at h
theorem row6 : ∀ (j : Nat) (i : TI), ([some ti96, some ti97, some ti98, some ti99, some ti100, some ti101, some ti102, some ti103, some ti104, some ti105, some ti106, some ti107, some ti108, some ti109, some ti110, some ti111] : List (Option TI))[j]? = some (some i) → TIok Tryz.prog (96 + j) i := by
  intro j i h
  match j, h with
  | 0, h => simp at h; subst h; exact tok96
  | 1, h => simp at h; subst h; exact tok97
  | 2, h => simp at h; subst h; exact tok98
  | 3, h => simp at h; subst h; exact tok99
  | 4, h => simp at h; subst h; exact tok100
  | 5, h => simp at h; subst h; exact tok101
  | 6, h => simp at h; subst h; exact tok102
  | 7, h => simp at h; subst h; exact tok103
  | 8, h => simp at h; subst h; exact tok104
  | 9, h => simp at h; subst h; exact tok105
  | 10, h => simp at h; subst h; exact tok106
  | 11, h => simp at h; subst h; exact tok107
  | 12, h => simp at h; subst h; exact tok108
  | 13, h => simp at h; subst h; exact tok109
  | 14, h => simp at h; subst h; exact tok110
  | 15, h => simp at h; subst h; exact tok111
  | j + 16, h => simp at h
theorem row7 : ∀ (j : Nat) (i : TI), ([some ti112, some ti113, some ti114, some ti115, some ti116, some ti117, some ti118, some ti119, some ti120, some ti121, some ti122, some ti123, some ti124, some ti125, some ti126, some ti127] : List (Option TI))[j]? = some (some i) → TIok Tryz.prog (112 + j) i := by
  intro j i h
  match j, h with
  | 0, h => simp at h; subst h; exact tok112
  | 1, h => simp at h; subst h; exact tok113
  | 2, h => simp at h; subst h; exact tok114
  | 3, h => simp at h; subst h; exact tok115
  | 4, h => simp at h; subst h; exact tok116
  | 5, h => simp at h; subst h; exact tok117
  | 6, h => simp at h; subst h; exact tok118
  | 7, h => simp at h; subst h; exact tok119
  | 8, h => simp at h; subst h; exact tok120
  | 9, h => simp at h; subst h; exact tok121
  | 10, h => simp at h; subst h; exact tok122
  | 11, h => simp at h; subst h; exact tok123
  | 12, h => simp at h; subst h; exact tok124
  | 13, h => simp at h; subst h; exact tok125
  | 14, h => simp at h; subst h; exact tok126
  | 15, h => simp at h; subst h; exact tok127
  | j + 16, h => simp at h
theorem row8 : ∀ (j : Nat) (i : TI), ([some ti128, some ti129, some ti130, some ti131, some ti132, some ti133, some ti134, some ti135, some ti136, some ti137, some ti138, some ti139, some ti140, some ti141, some ti142, some ti143] : List (Option TI))[j]? = some (some i) → TIok Tryz.prog (128 + j) i := by
  intro j i h
  match j, h with
  | 0, h => simp at h; subst h; exact tok128
  | 1, h => simp at h; subst h; exact tok129
  | 2, h => simp at h; subst h; exact tok130
  | 3, h => simp at h; subst h; exact tok131
  | 4, h => simp at h; subst h; exact tok132
  | 5, h => simp at h; subst h; exact tok133
  | 6, h => simp at h; subst h; exact tok134
  | 7, h => simp at h; subst h; exact tok135
  | 8, h => simp at h; subst h; exact tok136
  | 9, h => simp at h; subst h; exact tok137
  | 10, h => simp at h; subst h; exact tok138
  | 11, h => simp at h; subst h; exact tok139
  | 12, h => simp at h; subst h; exact tok140
  | 13, h => simp at h; subst h; exact tok141
  | 14, h => simp at h; subst h; exact tok142
  | 15, h => simp at h; subst h; exact tok143
  | j + 16, h => simp at h
theorem row9 : ∀ (j : Nat) (i : TI), ([some ti144, some ti145, some ti146, some ti147, some ti148, some ti149, some ti150, some ti151, some ti152, some ti153, some ti154, some ti155, some ti156, some ti157, some ti158, some ti159] : List (Option TI))[j]? = some (some i) → TIok Tryz.prog (144 + j) i := by
  intro j i h
  match j, h with
  | 0, h => simp at h; subst h; exact tok144
  | 1, h => simp at h; subst h; exact tok145
  | 2, h => simp at h; subst h; exact tok146
  | 3, h => simp at h; subst h; exact tok147
  | 4, h => simp at h; subst h; exact tok148
  | 5, h => simp at h; subst h; exact tok149
  | 6, h => simp at h; subst h; exact tok150
  | 7, h => simp at h; subst h; exact tok151
  | 8, h => simp at h; subst h; exact tok152
  | 9, h => simp at h; subst h; exact tok153
  | 10, h => simp at h; subst h; exact tok154
  | 11, h => simp at h; subst h; exact tok155
  | 12, h => simp at h; subst h; exact tok156
  | 13, h => simp at h; subst h; exact tok157
  | 14, h => simp at h; subst h; exact tok158
  | 15, h => simp at h; subst h; exact tok159
  | j + 16, h => simp at h
theorem row10 : ∀ (j : Nat) (i : TI), ([some ti160, some ti161, some ti162, some ti163, some ti164, some ti165, some ti166, some ti167, some ti168, some ti169, some ti170, some ti171, some ti172, some ti173, some ti174, some ti175] : List (Option TI))[j]? = some (some i) → TIok Tryz.prog (160 + j) i := by
  intro j i h
  match j, h with
  | 0, h => simp at h; subst h; exact tok160
  | 1, h => simp at h; subst h; exact tok161
  | 2, h => simp at h; subst h; exact tok162
  | 3, h => simp at h; subst h; exact tok163
  | 4, h => simp at h; subst h; exact tok164
  | 5, h => simp at h; subst h; exact tok165
  | 6, h => simp at h; subst h; exact tok166
  | 7, h => simp at h; subst h; exact tok167
  | 8, h => simp at h; subst h; exact tok168
  | 9, h => simp at h; subst h; exact tok169
  | 10, h => simp at h; subst h; exact tok170
  | 11, h => simp at h; subst h; exact tok171
  | 12, h => simp at h; subst h; exact tok172
  | 13, h => simp at h; subst h; exact tok173
  | 14, h => simp at h; subst h; exact tok174
  | 15, h => simp at h; subst h; exact tok175
  | j + 16, h => simp at h
theorem row11 : ∀ (j : Nat) (i : TI), ([some ti176, some ti177, some ti178, some ti179, some ti180, some ti181, some ti182, some ti183, some ti184, some ti185, some ti186, some ti187, some ti188, some ti189, some ti190, some ti191] : List (Option TI))[j]? = some (some i) → TIok Tryz.prog (176 + j) i := by
  intro j i h
  match j, h with
  | 0, h => simp at h; subst h; exact tok176
  | 1, h => simp at h; subst h; exact tok177
  | 2, h => simp at h; subst h; exact tok178
  | 3, h => simp at h; subst h; exact tok179
  | 4, h => simp at h; subst h; exact tok180
  | 5, h => simp at h; subst h; exact tok181
  | 6, h => simp at h; subst h; exact tok182
  | 7, h => simp at h; subst h; exact tok183
  | 8, h => simp at h; subst h; exact tok184
  | 9, h => simp at h; subst h; exact tok185
  | 10, h => simp at h; subst h; exact tok186
  | 11, h => simp at h; subst h; exact tok187
  | 12, h => simp at h; subst h; exact tok188
  | 13, h => simp at h; subst h; exact tok189
  | 14, h => simp at h; subst h; exact tok190
  | 15, h => simp at h; subst h; exact tok191
  | j + 16, h => simp at h
theorem row12 : ∀ (j : Nat) (i : TI), ([some ti192, some ti193, some ti194, some ti195, some ti196, some ti197, some ti198, some ti199, some ti200, some ti201, some ti202, some ti203, some ti204, some ti205, some ti206, some ti207] : List (Option TI))[j]? = some (some i) → TIok Tryz.prog (192 + j) i := by
  intro j i h
  match j, h with
  | 0, h => simp at h; subst h; exact tok192
  | 1, h => simp at h; subst h; exact tok193
  | 2, h => simp at h; subst h; exact tok194
  | 3, h => simp at h; subst h; exact tok195
  | 4, h => simp at h; subst h; exact tok196
  | 5, h => simp at h; subst h; exact tok197
  | 6, h => simp at h; subst h; exact tok198
  | 7, h => simp at h; subst h; exact tok199
  | 8, h => simp at h; subst h; exact tok200
  | 9, h => simp at h; subst h; exact tok201
  | 10, h => simp at h; subst h; exact tok202
  | 11, h => simp at h; subst h; exact tok203
  | 12, h => simp at h; subst h; exact tok204
  | 13, h => simp at h; subst h; exact tok205
  | 14, h => simp at h; subst h; exact tok206
  | 15, h => simp at h; subst h; exact tok207
  | j + 16, h => simp at h
theorem row13 : ∀ (j : Nat) (i : TI), ([some ti208, some ti209, some ti210, some ti211, some ti212, some ti213, some ti214, some ti215, some ti216, some ti217, some ti218, some ti219, some ti220, some ti221, some ti222, some ti223] : List (Option TI))[j]? = some (some i) → TIok Tryz.prog (208 + j) i := by
  intro j i h
  match j, h with
  | 0, h => simp at h; subst h; exact tok208
  | 1, h => simp at h; subst h; exact tok209
  | 2, h => simp at h; subst h; exact tok210
  | 3, h => simp at h; subst h; exact tok211
  | 4, h => simp at h; subst h; exact tok212
  | 5, h => simp at h; subst h; exact tok213
  | 6, h => simp at h; subst h; exact tok214
  | 7, h => simp at h; subst h; exact tok215
  | 8, h => simp at h; subst h; exact tok216
  | 9, h => simp at h; subst h; exact tok217
  | 10, h => simp at h; subst h; exact tok218
  | 11, h => simp at h; subst h; exact tok219
  | 12, h => simp at h; subst h; exact tok220
  | 13, h => simp at h; subst h; exact tok221
  | 14, h => simp at h; subst h; exact tok222
  | 15, h => simp at h; subst h; exact tok223
  | j + 16, h => simp at h
theorem row14 : ∀ (j : Nat) (i : TI), ([some ti224, some ti225, some ti226, some ti227, some ti228, some ti229, some ti230, some ti231, some ti232, some ti233, some ti234, some ti235, some ti236, some ti237, some ti238, some ti239] : List (Option TI))[j]? = some (some i) → TIok Tryz.prog (224 + j) i := by
  intro j i h
  match j, h with
  | 0, h => simp at h; subst h; exact tok224
  | 1, h => simp at h; subst h; exact tok225
  | 2, h => simp at h; subst h; exact tok226
  | 3, h => simp at h; subst h; exact tok227
  | 4, h => simp at h; subst h; exact tok228
  | 5, h => simp at h; subst h; exact tok229
  | 6, h => simp at h; subst h; exact tok230
  | 7, h => simp at h; subst h; exact tok231
  | 8, h => simp at h; subst h; exact tok232
  | 9, h => simp at h; subst h; exact tok233
  | 10, h => simp at h; subst h; exact tok234
  | 11, h => simp at h; subst h; exact tok235
  | 12, h => simp at h; subst h; exact tok236
  | 13, h => simp at h; subst h; exact tok237
  | 14, h => simp at h; subst h; exact tok238
  | 15, h => simp at h; subst h; exact tok239
  | j + 16, h => simp at h
theorem row15 : ∀ (j : Nat) (i : TI), ([some ti240, some ti241, some ti242, some ti243, some ti244, some ti245, some ti246, some ti247, some ti248, some ti249, some ti250, some ti251, some ti252, some ti253, some ti254, some ti255] : List (Option TI))[j]? = some (some i) → TIok Tryz.prog (240 + j) i := by
  intro j i h
  match j, h with
  | 0, h => simp at h; subst h; exact tok240
  | 1, h => simp at h; subst h; exact tok241
  | 2, h => simp at h; subst h; exact tok242
  | 3, h => simp at h; subst h; exact tok243
  | 4, h => simp at h; subst h; exact tok244
  | 5, h => simp at h; subst h; exact tok245
  | 6, h => simp at h; subst h; exact tok246
  | 7, h => simp at h; subst h; exact tok247
  | 8, h => simp at h; subst h; exact tok248
  | 9, h => simp at h; subst h; exact tok249
  | 10, h => simp at h; subst h; exact tok250
  | 11, h => simp at h; subst h; exact tok251
  | 12, h => simp at h; subst h; exact tok252
  | 13, h => simp at h; subst h; exact tok253
  | 14, h => simp at h; subst h; exact tok254
  | 15, h => simp at h; subst h; exact tok255
  | j + 16, h => simp at h
theorem row16 : ∀ (j : Nat) (i : TI), ([some ti256, some ti257, some ti258, some ti259, some ti260, some ti261, some ti262, some ti263, some ti264, some ti265, some ti266, some ti267, some ti268, some ti269, some ti270, some ti271] : List (Option TI))[j]? = some (some i) → TIok Tryz.prog (256 + j) i := by
  intro j i h
  match j, h with
  | 0, h => simp at h; subst h; exact tok256
  | 1, h => simp at h; subst h; exact tok257
  | 2, h => simp at h; subst h; exact tok258
  | 3, h => simp at h; subst h; exact tok259
  | 4, h => simp at h; subst h; exact tok260
  | 5, h => simp at h; subst h; exact tok261
  | 6, h => simp at h; subst h; exact tok262
  | 7, h => simp at h; subst h; exact tok263
  | 8, h => simp at h; subst h; exact tok264
  | 9, h => simp at h; subst h; exact tok265
  | 10, h => simp at h; subst h; exact tok266
  | 11, h => simp at h; subst h; exact tok267
  | 12, h => simp at h; subst h; exact tok268
  | 13, h => simp at h; subst h; exact tok269
  | 14, h => simp at h; subst h; exact tok270
  | 15, h => simp at h; subst h; exact tok271
  | j + 16, h => simp at h
theorem row17 : ∀ (j : Nat) (i : TI), ([some ti272, some ti273, some ti274, some ti275, some ti276, some ti277, some ti278, some ti279, some ti280, some ti281, some ti282, some ti283, some ti284, some ti285, some ti286, some ti287] : List (Option TI))[j]? = some (some i) → TIok Tryz.prog (272 + j) i := by
  intro j i h
  match j, h with
  | 0, h => simp at h; subst h; exact tok272
  | 1, h => simp at h; subst h; exact tok273
  | 2, h => simp at h; subst h; exact tok274
  | 3, h => simp at h; subst h; exact tok275
  | 4, h => simp at h; subst h; exact tok276
  | 5, h => simp at h; subst h; exact tok277
  | 6, h => simp at h; subst h; exact tok278
  | 7, h => simp at h; subst h; exact tok279
  | 8, h => simp at h; subst h; exact tok280
  | 9, h => simp at h; subst h; exact tok281
  | 10, h => simp at h; subst h; exact tok282
  | 11, h => simp at h; subst h; exact tok283
  | 12, h => simp at h; subst h; exact tok284
  | 13, h => simp at h; subst h; exact tok285
  | 14, h => simp at h; subst h; exact tok286
  | 15, h => simp at h; subst h; exact tok287
  | j + 16, h => simp at h
theorem row18 : ∀ (j : Nat) (i : TI), ([some ti288, some ti289, some ti290, some ti291, some ti292, some ti293, some ti294, some ti295, some ti296, some ti297, some ti298, some ti299, some ti300, some ti301, some ti302, some ti303] : List (Option TI))[j]? = some (some i) → TIok Tryz.prog (288 + j) i := by
  intro j i h
  match j, h with
  | 0, h => simp at h; subst h; exact tok288
  | 1, h => simp at h; subst h; exact tok289
  | 2, h => simp at h; subst h; exact tok290
  | 3, h => simp at h; subst h; exact tok291
  | 4, h => simp at h; subst h; exact tok292
  | 5, h => simp at h; subst h; exact tok293
  | 6, h => simp at h; subst h; exact tok294
  | 7, h => simp at h; subst h; exact tok295
  | 8, h => simp at h; subst h; exact tok296
  | 9, h => simp at h; subst h; exact tok297
  | 10, h => simp at h; subst h; exact tok298
  | 11, h => simp at h; subst h; exact tok299
  | 12, h => simp at h; subst h; exact tok300
  | 13, h => simp at h; subst h; exact tok301
  | 14, h => simp at h; subst h; exact tok302
  | 15, h => simp at h; subst h; exact tok303
  | j + 16, h => simp at h
theorem row19 : ∀ (j : Nat) (i : TI), ([some ti304, some ti305, some ti306, some ti307, some ti308, some ti309, some ti310, some ti311, some ti312, some ti313, some ti314, some ti315, some ti316, some ti317, some ti318, some ti319] : List (Option TI))[j]? = some (some i) → TIok Tryz.prog (304 + j) i := by
  intro j i h
  match j, h with
  | 0, h => simp at h; subst h; exact tok304
  | 1, h => simp at h; subst h; exact tok305
  | 2, h => simp at h; subst h; exact tok306
  | 3, h => simp at h; subst h; exact tok307
  | 4, h => simp at h; subst h; exact tok308
  | 5, h => simp at h; subst h; exact tok309
  | 6, h => simp at h; subst h; exact tok310
  | 7, h => simp at h; subst h; exact tok311
  | 8, h => simp at h; subst h; exact tok312
  | 9, h => simp at h; subst h; exact tok313
  | 10, h => simp at h; subst h; exact tok314
  | 11, h => simp at h; subst h; exact tok315
  | 12, h => simp at h; subst h; exact tok316
  | 13, h => simp at h; subst h; exact tok317
  | 14, h => simp at h; subst h; exact tok318
  | 15, h => simp at h; subst h; exact tok319
  | j + 16, h => simp at h
theorem row20 : ∀ (j : Nat) (i : TI), ([some ti320, some ti321, some ti322, some ti323, some ti324, some ti325, some ti326, some ti327, some ti328, some ti329, some ti330, some ti331, some ti332, some ti333, some ti334, some ti335] : List (Option TI))[j]? = some (some i) → TIok Tryz.prog (320 + j) i := by
  intro j i h
  match j, h with
  | 0, h => simp at h; subst h; exact tok320
  | 1, h => simp at h; subst h; exact tok321
  | 2, h => simp at h; subst h; exact tok322
  | 3, h => simp at h; subst h; exact tok323
  | 4, h => simp at h; subst h; exact tok324
  | 5, h => simp at h; subst h; exact tok325
  | 6, h => simp at h; subst h; exact tok326
  | 7, h => simp at h; subst h; exact tok327
  | 8, h => simp at h; subst h; exact tok328
  | 9, h => simp at h; subst h; exact tok329
  | 10, h => simp at h; subst h; exact tok330
  | 11, h => simp at h; subst h; exact tok331
  | 12, h => simp at h; subst h; exact tok332
  | 13, h => simp at h; subst h; exact tok333
  | 14, h => simp at h; subst h; exact tok334
  | 15, h => simp at h; subst h; exact tok335
  | j + 16, h => simp at h
theorem row21 : ∀ (j : Nat) (i : TI), ([some ti336, some ti337, some ti338, some ti339, some ti340, some ti341, some ti342, some ti343, some ti344, some ti345, some ti346, some ti347, some ti348, some ti349, some ti350, some ti351] : List (Option TI))[j]? = some (some i) → TIok Tryz.prog (336 + j) i := by
  intro j i h
  match j, h with
  | 0, h => simp at h; subst h; exact tok336
  | 1, h => simp at h; subst h; exact tok337
  | 2, h => simp at h; subst h; exact tok338
  | 3, h => simp at h; subst h; exact tok339
  | 4, h => simp at h; subst h; exact tok340
  | 5, h => simp at h; subst h; exact tok341
  | 6, h => simp at h; subst h; exact tok342
  | 7, h => simp at h; subst h; exact tok343
  | 8, h => simp at h; subst h; exact tok344
  | 9, h => simp at h; subst h; exact tok345
  | 10, h => simp at h; subst h; exact tok346
  | 11, h => simp at h; subst h; exact tok347
  | 12, h => simp at h; subst h; exact tok348
  | 13, h => simp at h; subst h; exact tok349
  | 14, h => simp at h; subst h; exact tok350
  | 15, h => simp at h; subst h; exact tok351
  | j + 16, h => simp at h
theorem row22 : ∀ (j : Nat) (i : TI), ([some ti352, some ti353, some ti354, some ti355, some ti356, some ti357, some ti358, some ti359, some ti360, some ti361, some ti362, some ti363] : List (Option TI))[j]? = some (some i) → TIok Tryz.prog (352 + j) i := by
  intro j i h
  match j, h with
  | 0, h => simp at h; subst h; exact tok352
  | 1, h => simp at h; subst h; exact tok353
  | 2, h => simp at h; subst h; exact tok354
  | 3, h => simp at h; subst h; exact tok355
  | 4, h => simp at h; subst h; exact tok356
  | 5, h => simp at h; subst h; exact tok357
  | 6, h => simp at h; subst h; exact tok358
  | 7, h => simp at h; subst h; exact tok359
  | 8, h => simp at h; subst h; exact tok360
  | 9, h => simp at h; subst h; exact tok361
  | 10, h => simp at h; subst h; exact tok362
  | 11, h => simp at h; subst h; exact tok363
  | j + 12, h => simp at h
theorem row23 : ∀ (j : Nat) (i : TI), ([] : List (Option TI))[j]? = some (some i) → TIok Tryz.prog (368 + j) i := by
  intro j i h
  simp at h
theorem row24 : ∀ (j : Nat) (i : TI), ([] : List (Option TI))[j]? = some (some i) → TIok Tryz.prog (384 + j) i := by
  intro j i h
  simp at h
theorem row25 : ∀ (j : Nat) (i : TI), ([] : List (Option TI))[j]? = some (some i) → TIok Tryz.prog (400 + j) i := by
  intro j i h
  simp at h
theorem row26 : ∀ (j : Nat) (i : TI), ([] : List (Option TI))[j]? = some (some i) → TIok Tryz.prog (416 + j) i := by
  intro j i h
  simp at h
theorem tOk : TbOk Tryz.prog tbl := by
  intro t i h
  obtain ⟨l, h1, h2⟩ := tinfo_some h
  have e : t = 16 * (t / 16) + t % 16 := (Nat.div_add_mod t 16).symm
  rw [e]
  generalize t / 16 = a at h1 ⊢
  generalize t % 16 = b at h2 ⊢
  match a, h1 with
  | 0, h1 => simp [tbl] at h1; subst h1; exact row0 b i h2
  | 1, h1 => simp [tbl] at h1; subst h1; exact row1 b i h2
  | 2, h1 => simp [tbl] at h1; subst h1; exact row2 b i h2
  | 3, h1 => simp [tbl] at h1; subst h1; exact row3 b i h2
  | 4, h1 => simp [tbl] at h1; subst h1; exact row4 b i h2
  | 5, h1 => simp [tbl] at h1; subst h1; exact row5 b i h2
  | 6, h1 => simp [tbl] at h1; subst h1; exact row6 b i h2
  | 7, h1 => simp [tbl] at h1; subst h1; exact row7 b i h2
  | 8, h1 => simp [tbl] at h1; subst h1; exact row8 b i h2
  | 9, h1 => simp [tbl] at h1; subst h1; exact row9 b i h2
  | 10, h1 => simp [tbl] at h1; subst h1; exact row10 b i h2
  | 11, h1 => simp [tbl] at h1; subst h1; exact row11 b i h2
  | 12, h1 => simp [tbl] at h1; subst h1; exact row12 b i h2
  | 13, h1 => simp [tbl] at h1; subst h1; exact row13 b i h2
  | 14, h1 => simp [tbl] at h1; subst h1; exact row14 b i h2
  | 15, h1 => simp [tbl] at h1; subst h1; exact row15 b i h2
  | 16, h1 => simp [tbl] at h1; subst h1; exact row16 b i h2
  | 17, h1 => simp [tbl] at h1; subst h1; exact row17 b i h2
  | 18, h1 => simp [tbl] at h1; subst h1; exact row18 b i h2
  | 19, h1 => simp [tbl] at h1; subst h1; exact row19 b i h2
  | 20, h1 => simp [tbl] at h1; subst h1; exact row20 b i h2
  | 21, h1 => simp [tbl] at h1; subst h1; exact row21 b i h2
  | 22, h1 => simp [tbl] at h1; subst h1; exact row22 b i h2
  | 23, h1 => simp [tbl] at h1; subst h1; exact row23 b i h2
  | 24, h1 => simp [tbl] at h1; subst h1; exact row24 b i h2
  | 25, h1 => simp [tbl] at h1; subst h1; exact row25 b i h2
  | 26, h1 => simp [tbl] at h1; subst h1; exact row26 b i h2
  | a + 27, h1 => simp [tbl] at h1
end Go.Nv
end
