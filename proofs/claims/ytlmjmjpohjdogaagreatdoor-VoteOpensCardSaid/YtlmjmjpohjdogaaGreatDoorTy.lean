/- A part of the proofs of the Vote laws: the program's types and methods, printed by a program of the prover's. -/
import Derived.Test.YtlmjmjpohjdogaaGreatDoorRxC
import Derived.Test.YtlmjmjpohjdogaaGreatDoorProg
import Derived.KernelRfl
set_option linter.unusedVariables false
set_option linter.unusedSimpArgs false
/- PRINTED by gen.py: types and methods. -/
namespace Go.Proofs.Vt
open Go Go.Rx Go.Proofs
abbrev M1 := V → M
abbrev M2 := V → V → M
abbrev M3 := V → V → V → M
def ti1 : TI := ⟨Kd.func, 1, 8, V.nilFunc⟩
def ti2 : TI := ⟨(Kd.int .i64), 1, 8, (V.int .i64 0)⟩
def ti3 : TI := ⟨(Kd.int .i64), 1, 8, (V.int .i64 0)⟩
def ti4 : TI := ⟨Kd.bool, 1, 1, (V.bool false)⟩
def ti5 : TI := ⟨(Kd.int .u8), 1, 1, (V.int .u8 0)⟩
def ti6 : TI := ⟨(Kd.int .u8), 1, 1, (V.int .u8 0)⟩
def ti7 : TI := ⟨(Kd.struct [(0, 2), (1, 3), (2, 4), (3, 6)]), 4, 24, (V.agg [(V.int .i64 0), (V.int .i64 0), (V.bool false), (V.int .u8 0)])⟩
def ti8 : TI := ⟨(Kd.struct [(0, 2), (1, 3), (2, 4), (3, 6)]), 4, 24, (V.agg [(V.int .i64 0), (V.int .i64 0), (V.bool false), (V.int .u8 0)])⟩
def ti9 : TI := ⟨Kd.str, 1, 16, (V.str [])⟩
def ti10 : TI := ⟨Kd.str, 1, 16, (V.str [])⟩
def ti11 : TI := ⟨Kd.str, 1, 16, (V.str [])⟩
def ti12 : TI := ⟨(Kd.int .u64), 1, 8, (V.int .u64 0)⟩
def ti13 : TI := ⟨(Kd.struct [(0, 9), (1, 12)]), 2, 24, (V.agg [(V.str []), (V.int .u64 0)])⟩
def ti14 : TI := ⟨(Kd.struct [(0, 9), (1, 12)]), 2, 24, (V.agg [(V.str []), (V.int .u64 0)])⟩
def ti15 : TI := ⟨(Kd.ptr 220), 1, 8, (V.ptr none)⟩
def ti16 : TI := ⟨(Kd.ptr 223), 1, 8, (V.ptr none)⟩
def ti17 : TI := ⟨(Kd.ptr 231), 1, 8, (V.ptr none)⟩
def ti18 : TI := ⟨(Kd.struct [(0, 17)]), 1, 8, (V.agg [(V.ptr none)])⟩
def ti19 : TI := ⟨(Kd.struct [(0, 17)]), 1, 8, (V.agg [(V.ptr none)])⟩
def ti20 : TI := ⟨(Kd.iface true), 1, 16, V.nilIface⟩
def ti21 : TI := ⟨(Kd.int .i32), 1, 4, (V.int .i32 0)⟩
def ti22 : TI := ⟨(Kd.slice 31), 1, 24, (V.slice none 0 0 true)⟩
def ti23 : TI := ⟨(Kd.ptr 69), 1, 8, (V.ptr none)⟩
def ti24 : TI := ⟨(Kd.int .i64), 1, 8, (V.int .i64 0)⟩
def ti26 : TI := ⟨Kd.func, 1, 8, V.nilFunc⟩
def ti27 : TI := ⟨(Kd.ptr 87), 1, 8, (V.ptr none)⟩
def ti28 : TI := ⟨Kd.func, 1, 8, V.nilFunc⟩
def ti29 : TI := ⟨Kd.func, 1, 8, V.nilFunc⟩
def ti30 : TI := ⟨(Kd.arr 9 3), 9, 72, (V.agg [(V.int .i64 0), (V.int .i64 0), (V.int .i64 0), (V.int .i64 0), (V.int .i64 0), (V.int .i64 0), (V.int .i64 0), (V.int .i64 0), (V.int .i64 0)])⟩
def ti31 : TI := ⟨(Kd.arr 3 3), 3, 24, (V.agg [(V.int .i64 0), (V.int .i64 0), (V.int .i64 0)])⟩
def ti32 : TI := ⟨Kd.func, 1, 8, V.nilFunc⟩
def ti34 : TI := ⟨Kd.func, 1, 8, V.nilFunc⟩
def ti35 : TI := ⟨(Kd.slice 3), 1, 24, (V.slice none 0 0 true)⟩
def ti36 : TI := ⟨(Kd.struct [(0, 3), (1, 3), (2, 35)]), 3, 40, (V.agg [(V.int .i64 0), (V.int .i64 0), (V.slice none 0 0 true)])⟩
def ti37 : TI := ⟨(Kd.struct [(0, 3), (1, 3), (2, 35)]), 3, 40, (V.agg [(V.int .i64 0), (V.int .i64 0), (V.slice none 0 0 true)])⟩
def ti38 : TI := ⟨Kd.func, 1, 8, V.nilFunc⟩
def ti39 : TI := ⟨(Kd.slice 43), 1, 24, (V.slice none 0 0 true)⟩
def ti41 : TI := ⟨Kd.func, 1, 8, V.nilFunc⟩
def ti42 : TI := ⟨(Kd.struct [(0, 3), (1, 37)]), 4, 48, (V.agg [(V.int .i64 0), (V.int .i64 0), (V.int .i64 0), (V.slice none 0 0 true)])⟩
def ti43 : TI := ⟨(Kd.struct [(0, 3), (1, 37)]), 4, 48, (V.agg [(V.int .i64 0), (V.int .i64 0), (V.int .i64 0), (V.slice none 0 0 true)])⟩
def ti44 : TI := ⟨Kd.func, 1, 8, V.nilFunc⟩
def ti45 : TI := ⟨Kd.func, 1, 8, V.nilFunc⟩
def ti46 : TI := ⟨(Kd.slice 47), 1, 24, (V.slice none 0 0 true)⟩
def ti47 : TI := ⟨(Kd.arr 2 3), 2, 16, (V.agg [(V.int .i64 0), (V.int .i64 0)])⟩
def ti48 : TI := ⟨Kd.func, 1, 8, V.nilFunc⟩
def ti49 : TI := ⟨Kd.func, 1, 8, V.nilFunc⟩
def ti50 : TI := ⟨Kd.func, 1, 8, V.nilFunc⟩
def ti51 : TI := ⟨Kd.func, 1, 8, V.nilFunc⟩
def ti52 : TI := ⟨(Kd.slice 59), 1, 24, (V.slice none 0 0 true)⟩
def ti53 : TI := ⟨(Kd.ptr 58), 1, 8, (V.ptr none)⟩
def ti54 : TI := ⟨(Kd.ptr 99), 1, 8, (V.ptr none)⟩
def ti55 : TI := ⟨Kd.func, 1, 8, V.nilFunc⟩
def ti56 : TI := ⟨(Kd.ptr 108), 1, 8, (V.ptr none)⟩
def ti57 : TI := ⟨(Kd.struct [(0, 27), (1, 23), (2, 54), (3, 56)]), 4, 32, (V.agg [(V.ptr none), (V.ptr none), (V.ptr none), (V.ptr none)])⟩
def ti58 : TI := ⟨(Kd.struct [(0, 27), (1, 23), (2, 54), (3, 56)]), 4, 32, (V.agg [(V.ptr none), (V.ptr none), (V.ptr none), (V.ptr none)])⟩
def ti59 : TI := ⟨(Kd.slice 5), 1, 24, (V.slice none 0 0 true)⟩
def ti61 : TI := ⟨Kd.func, 1, 8, V.nilFunc⟩
def ti62 : TI := ⟨Kd.func, 1, 8, V.nilFunc⟩
def ti63 : TI := ⟨Kd.func, 1, 8, V.nilFunc⟩
def ti64 : TI := ⟨Kd.func, 1, 8, V.nilFunc⟩
def ti65 : TI := ⟨(Kd.slice 52), 1, 24, (V.slice none 0 0 true)⟩
def ti66 : TI := ⟨(Kd.ptr 116), 1, 8, (V.ptr none)⟩
def ti67 : TI := ⟨(Kd.map 3 43), 1, 8, (V.map none)⟩
def ti68 : TI := ⟨(Kd.struct [(0, 66), (1, 3), (2, 3), (3, 67)]), 4, 32, (V.agg [(V.ptr none), (V.int .i64 0), (V.int .i64 0), (V.map none)])⟩
def ti69 : TI := ⟨(Kd.struct [(0, 66), (1, 3), (2, 3), (3, 67)]), 4, 32, (V.agg [(V.ptr none), (V.int .i64 0), (V.int .i64 0), (V.map none)])⟩
def ti70 : TI := ⟨(Kd.slice 75), 1, 24, (V.slice none 0 0 true)⟩
def ti71 : TI := ⟨(Kd.arr 12 3), 12, 96, (V.agg [(V.int .i64 0), (V.int .i64 0), (V.int .i64 0), (V.int .i64 0), (V.int .i64 0), (V.int .i64 0), (V.int .i64 0), (V.int .i64 0), (V.int .i64 0), (V.int .i64 0), (V.int .i64 0), (V.int .i64 0)])⟩
def ti72 : TI := ⟨(Kd.struct [(0, 3), (1, 71)]), 13, 104, (V.agg [(V.int .i64 0), (V.int .i64 0), (V.int .i64 0), (V.int .i64 0), (V.int .i64 0), (V.int .i64 0), (V.int .i64 0), (V.int .i64 0), (V.int .i64 0), (V.int .i64 0), (V.int .i64 0), (V.int .i64 0), (V.int .i64 0)])⟩
def ti73 : TI := ⟨(Kd.struct [(0, 3), (1, 71)]), 13, 104, (V.agg [(V.int .i64 0), (V.int .i64 0), (V.int .i64 0), (V.int .i64 0), (V.int .i64 0), (V.int .i64 0), (V.int .i64 0), (V.int .i64 0), (V.int .i64 0), (V.int .i64 0), (V.int .i64 0), (V.int .i64 0), (V.int .i64 0)])⟩
def ti74 : TI := ⟨(Kd.struct [(0, 3), (1, 3), (2, 3), (3, 37)]), 6, 64, (V.agg [(V.int .i64 0), (V.int .i64 0), (V.int .i64 0), (V.int .i64 0), (V.int .i64 0), (V.slice none 0 0 true)])⟩
def ti75 : TI := ⟨(Kd.struct [(0, 3), (1, 3), (2, 3), (3, 37)]), 6, 64, (V.agg [(V.int .i64 0), (V.int .i64 0), (V.int .i64 0), (V.int .i64 0), (V.int .i64 0), (V.slice none 0 0 true)])⟩
def ti76 : TI := ⟨Kd.func, 1, 8, V.nilFunc⟩
def ti77 : TI := ⟨Kd.func, 1, 8, V.nilFunc⟩
def ti79 : TI := ⟨Kd.func, 1, 8, V.nilFunc⟩
def ti80 : TI := ⟨Kd.func, 1, 8, V.nilFunc⟩
def ti81 : TI := ⟨Kd.func, 1, 8, V.nilFunc⟩
def ti82 : TI := ⟨(Kd.iface false), 1, 16, V.nilIface⟩
def ti83 : TI := ⟨(Kd.iface false), 1, 16, V.nilIface⟩
def ti84 : TI := ⟨Kd.func, 1, 8, V.nilFunc⟩
def ti85 : TI := ⟨Kd.func, 1, 8, V.nilFunc⟩
def ti86 : TI := ⟨(Kd.struct [(0, 59), (1, 3), (2, 4), (3, 85), (4, 52)]), 5, 72, (V.agg [(V.slice none 0 0 true), (V.int .i64 0), (V.bool false), V.nilFunc, (V.slice none 0 0 true)])⟩
def ti87 : TI := ⟨(Kd.struct [(0, 59), (1, 3), (2, 4), (3, 85), (4, 52)]), 5, 72, (V.agg [(V.slice none 0 0 true), (V.int .i64 0), (V.bool false), V.nilFunc, (V.slice none 0 0 true)])⟩
def ti88 : TI := ⟨Kd.func, 1, 8, V.nilFunc⟩
def ti89 : TI := ⟨Kd.func, 1, 8, V.nilFunc⟩
def ti90 : TI := ⟨Kd.func, 1, 8, V.nilFunc⟩
def ti91 : TI := ⟨Kd.func, 1, 8, V.nilFunc⟩
def ti92 : TI := ⟨(Kd.struct [(0, 3), (1, 37)]), 4, 48, (V.agg [(V.int .i64 0), (V.int .i64 0), (V.int .i64 0), (V.slice none 0 0 true)])⟩
def ti93 : TI := ⟨(Kd.int .i64), 1, 8, (V.int .i64 0)⟩
def ti94 : TI := ⟨Kd.func, 1, 8, V.nilFunc⟩
def ti95 : TI := ⟨Kd.func, 1, 8, V.nilFunc⟩
def ti96 : TI := ⟨(Kd.int .i64), 1, 8, (V.int .i64 0)⟩
def ti97 : TI := ⟨Kd.func, 1, 8, V.nilFunc⟩
def ti98 : TI := ⟨(Kd.struct [(0, 59), (1, 3), (2, 4), (3, 3), (4, 52)]), 5, 72, (V.agg [(V.slice none 0 0 true), (V.int .i64 0), (V.bool false), (V.int .i64 0), (V.slice none 0 0 true)])⟩
def ti99 : TI := ⟨(Kd.struct [(0, 59), (1, 3), (2, 4), (3, 3), (4, 52)]), 5, 72, (V.agg [(V.slice none 0 0 true), (V.int .i64 0), (V.bool false), (V.int .i64 0), (V.slice none 0 0 true)])⟩
def ti100 : TI := ⟨(Kd.arr 32 5), 32, 32, (V.agg [(V.int .u8 0), (V.int .u8 0), (V.int .u8 0), (V.int .u8 0), (V.int .u8 0), (V.int .u8 0), (V.int .u8 0), (V.int .u8 0), (V.int .u8 0), (V.int .u8 0), (V.int .u8 0), (V.int .u8 0), (V.int .u8 0), (V.int .u8 0), (V.int .u8 0), (V.int .u8 0), (V.int .u8 0), (V.int .u8 0), (V.int .u8 0), (V.int .u8 0), (V.int .u8 0), (V.int .u8 0), (V.int .u8 0), (V.int .u8 0), (V.int .u8 0), (V.int .u8 0), (V.int .u8 0), (V.int .u8 0), (V.int .u8 0), (V.int .u8 0), (V.int .u8 0), (V.int .u8 0)])⟩
def ti101 : TI := ⟨Kd.func, 1, 8, V.nilFunc⟩
def ti102 : TI := ⟨Kd.func, 1, 8, V.nilFunc⟩
def ti104 : TI := ⟨Kd.func, 1, 8, V.nilFunc⟩
def ti105 : TI := ⟨Kd.func, 1, 8, V.nilFunc⟩
def ti106 : TI := ⟨(Kd.ptr 110), 1, 8, (V.ptr none)⟩
def ti107 : TI := ⟨(Kd.struct [(0, 106), (1, 3), (2, 3), (3, 39)]), 4, 48, (V.agg [(V.ptr none), (V.int .i64 0), (V.int .i64 0), (V.slice none 0 0 true)])⟩
def ti108 : TI := ⟨(Kd.struct [(0, 106), (1, 3), (2, 3), (3, 39)]), 4, 48, (V.agg [(V.ptr none), (V.int .i64 0), (V.int .i64 0), (V.slice none 0 0 true)])⟩
def ti109 : TI := ⟨(Kd.struct [(0, 54), (1, 52), (2, 4)]), 3, 40, (V.agg [(V.ptr none), (V.slice none 0 0 true), (V.bool false)])⟩
def ti110 : TI := ⟨(Kd.struct [(0, 54), (1, 52), (2, 4)]), 3, 40, (V.agg [(V.ptr none), (V.slice none 0 0 true), (V.bool false)])⟩
def ti111 : TI := ⟨Kd.func, 1, 8, V.nilFunc⟩
def ti112 : TI := ⟨Kd.func, 1, 8, V.nilFunc⟩
def ti114 : TI := ⟨Kd.func, 1, 8, V.nilFunc⟩
def ti115 : TI := ⟨(Kd.struct [(0, 27), (1, 52), (2, 4)]), 3, 40, (V.agg [(V.ptr none), (V.slice none 0 0 true), (V.bool false)])⟩
def ti116 : TI := ⟨(Kd.struct [(0, 27), (1, 52), (2, 4)]), 3, 40, (V.agg [(V.ptr none), (V.slice none 0 0 true), (V.bool false)])⟩
def ti117 : TI := ⟨Kd.func, 1, 8, V.nilFunc⟩
def ti118 : TI := ⟨Kd.func, 1, 8, V.nilFunc⟩
def ti119 : TI := ⟨Kd.func, 1, 8, V.nilFunc⟩
def ti120 : TI := ⟨(Kd.ptr 154), 1, 8, (V.ptr none)⟩
def ti121 : TI := ⟨Kd.func, 1, 8, V.nilFunc⟩
def ti122 : TI := ⟨Kd.func, 1, 8, V.nilFunc⟩
def ti124 : TI := ⟨Kd.func, 1, 8, V.nilFunc⟩
def ti125 : TI := ⟨Kd.func, 1, 8, V.nilFunc⟩
def ti126 : TI := ⟨Kd.func, 1, 8, V.nilFunc⟩
def ti127 : TI := ⟨Kd.func, 1, 8, V.nilFunc⟩
def ti128 : TI := ⟨Kd.func, 1, 8, V.nilFunc⟩
def ti129 : TI := ⟨Kd.func, 1, 8, V.nilFunc⟩
def ti130 : TI := ⟨Kd.func, 1, 8, V.nilFunc⟩
def ti131 : TI := ⟨Kd.func, 1, 8, V.nilFunc⟩
def ti132 : TI := ⟨Kd.func, 1, 8, V.nilFunc⟩
def ti134 : TI := ⟨Kd.func, 1, 8, V.nilFunc⟩
def ti135 : TI := ⟨Kd.func, 1, 8, V.nilFunc⟩
def ti136 : TI := ⟨Kd.func, 1, 8, V.nilFunc⟩
def ti137 : TI := ⟨(Kd.ptr 163), 1, 8, (V.ptr none)⟩
def ti138 : TI := ⟨Kd.func, 1, 8, V.nilFunc⟩
def ti139 : TI := ⟨Kd.func, 1, 8, V.nilFunc⟩
def ti140 : TI := ⟨Kd.func, 1, 8, V.nilFunc⟩
def ti141 : TI := ⟨Kd.func, 1, 8, V.nilFunc⟩
def ti142 : TI := ⟨Kd.func, 1, 8, V.nilFunc⟩
def ti143 : TI := ⟨Kd.func, 1, 8, V.nilFunc⟩
def ti144 : TI := ⟨Kd.func, 1, 8, V.nilFunc⟩
def ti145 : TI := ⟨(Kd.int .u32), 1, 4, (V.int .u32 0)⟩
def ti146 : TI := ⟨(Kd.arr 8 145), 8, 32, (V.agg [(V.int .u32 0), (V.int .u32 0), (V.int .u32 0), (V.int .u32 0), (V.int .u32 0), (V.int .u32 0), (V.int .u32 0), (V.int .u32 0)])⟩
def ti147 : TI := ⟨Kd.func, 1, 8, V.nilFunc⟩
def ti148 : TI := ⟨Kd.func, 1, 8, V.nilFunc⟩
def ti150 : TI := ⟨Kd.func, 1, 8, V.nilFunc⟩
def ti151 : TI := ⟨Kd.func, 1, 8, V.nilFunc⟩
def ti152 : TI := ⟨Kd.func, 1, 8, V.nilFunc⟩
def ti153 : TI := ⟨(Kd.struct [(0, 59), (1, 24)]), 2, 32, (V.agg [(V.slice none 0 0 true), (V.int .i64 0)])⟩
def ti154 : TI := ⟨(Kd.struct [(0, 59), (1, 24)]), 2, 32, (V.agg [(V.slice none 0 0 true), (V.int .i64 0)])⟩
def ti155 : TI := ⟨Kd.func, 1, 8, V.nilFunc⟩
def ti156 : TI := ⟨(Kd.int .u64), 1, 8, (V.int .u64 0)⟩
def ti157 : TI := ⟨(Kd.int .u64), 1, 8, (V.int .u64 0)⟩
def ti158 : TI := ⟨Kd.func, 1, 8, V.nilFunc⟩
def ti159 : TI := ⟨Kd.func, 1, 8, V.nilFunc⟩
def ti160 : TI := ⟨Kd.func, 1, 8, V.nilFunc⟩
def ti161 : TI := ⟨Kd.func, 1, 8, V.nilFunc⟩
def ti162 : TI := ⟨Kd.func, 1, 8, V.nilFunc⟩
def ti163 : TI := ⟨(Kd.struct [(0, 59), (1, 24)]), 2, 32, (V.agg [(V.slice none 0 0 true), (V.int .i64 0)])⟩
def ti164 : TI := ⟨Kd.func, 1, 8, V.nilFunc⟩
def ti165 : TI := ⟨Kd.func, 1, 8, V.nilFunc⟩
def ti166 : TI := ⟨(Kd.arr 64 145), 64, 256, (V.agg [(V.int .u32 0), (V.int .u32 0), (V.int .u32 0), (V.int .u32 0), (V.int .u32 0), (V.int .u32 0), (V.int .u32 0), (V.int .u32 0), (V.int .u32 0), (V.int .u32 0), (V.int .u32 0), (V.int .u32 0), (V.int .u32 0), (V.int .u32 0), (V.int .u32 0), (V.int .u32 0), (V.int .u32 0), (V.int .u32 0), (V.int .u32 0), (V.int .u32 0), (V.int .u32 0), (V.int .u32 0), (V.int .u32 0), (V.int .u32 0), (V.int .u32 0), (V.int .u32 0), (V.int .u32 0), (V.int .u32 0), (V.int .u32 0), (V.int .u32 0), (V.int .u32 0), (V.int .u32 0), (V.int .u32 0), (V.int .u32 0), (V.int .u32 0), (V.int .u32 0), (V.int .u32 0), (V.int .u32 0), (V.int .u32 0), (V.int .u32 0), (V.int .u32 0), (V.int .u32 0), (V.int .u32 0), (V.int .u32 0), (V.int .u32 0), (V.int .u32 0), (V.int .u32 0), (V.int .u32 0), (V.int .u32 0), (V.int .u32 0), (V.int .u32 0), (V.int .u32 0), (V.int .u32 0), (V.int .u32 0), (V.int .u32 0), (V.int .u32 0), (V.int .u32 0), (V.int .u32 0), (V.int .u32 0), (V.int .u32 0), (V.int .u32 0), (V.int .u32 0), (V.int .u32 0), (V.int .u32 0)])⟩
def ti167 : TI := ⟨Kd.func, 1, 8, V.nilFunc⟩
def ti168 : TI := ⟨Kd.func, 1, 8, V.nilFunc⟩
def ti169 : TI := ⟨Kd.func, 1, 8, V.nilFunc⟩
def ti170 : TI := ⟨(Kd.ptr 179), 1, 8, (V.ptr none)⟩
def ti171 : TI := ⟨Kd.func, 1, 8, V.nilFunc⟩
def ti172 : TI := ⟨Kd.func, 1, 8, V.nilFunc⟩
def ti173 : TI := ⟨Kd.func, 1, 8, V.nilFunc⟩
def ti174 : TI := ⟨Kd.func, 1, 8, V.nilFunc⟩
def ti175 : TI := ⟨Kd.func, 1, 8, V.nilFunc⟩
def ti176 : TI := ⟨Kd.func, 1, 8, V.nilFunc⟩
def ti177 : TI := ⟨Kd.func, 1, 8, V.nilFunc⟩
def ti178 : TI := ⟨(Kd.struct [(0, 59), (1, 24)]), 2, 32, (V.agg [(V.slice none 0 0 true), (V.int .i64 0)])⟩
def ti179 : TI := ⟨(Kd.struct [(0, 59), (1, 24)]), 2, 32, (V.agg [(V.slice none 0 0 true), (V.int .i64 0)])⟩
def ti180 : TI := ⟨Kd.func, 1, 8, V.nilFunc⟩
def ti181 : TI := ⟨Kd.func, 1, 8, V.nilFunc⟩
def ti182 : TI := ⟨Kd.func, 1, 8, V.nilFunc⟩
def ti183 : TI := ⟨(Kd.ptr 205), 1, 8, (V.ptr none)⟩
def ti184 : TI := ⟨Kd.func, 1, 8, V.nilFunc⟩
def ti185 : TI := ⟨Kd.func, 1, 8, V.nilFunc⟩
def ti186 : TI := ⟨Kd.func, 1, 8, V.nilFunc⟩
def ti187 : TI := ⟨(Kd.slice 24), 1, 24, (V.slice none 0 0 true)⟩
def ti188 : TI := ⟨Kd.func, 1, 8, V.nilFunc⟩
def ti189 : TI := ⟨(Kd.int .i64), 1, 8, (V.int .i64 0)⟩
def ti191 : TI := ⟨Kd.func, 1, 8, V.nilFunc⟩
def ti192 : TI := ⟨Kd.func, 1, 8, V.nilFunc⟩
def ti193 : TI := ⟨Kd.func, 1, 8, V.nilFunc⟩
def ti194 : TI := ⟨Kd.func, 1, 8, V.nilFunc⟩
def ti196 : TI := ⟨Kd.func, 1, 8, V.nilFunc⟩
def ti197 : TI := ⟨Kd.func, 1, 8, V.nilFunc⟩
def ti198 : TI := ⟨Kd.func, 1, 8, V.nilFunc⟩
def ti199 : TI := ⟨Kd.func, 1, 8, V.nilFunc⟩
def ti200 : TI := ⟨Kd.func, 1, 8, V.nilFunc⟩
def ti201 : TI := ⟨Kd.func, 1, 8, V.nilFunc⟩
def ti202 : TI := ⟨Kd.func, 1, 8, V.nilFunc⟩
def ti203 : TI := ⟨Kd.func, 1, 8, V.nilFunc⟩
def ti204 : TI := ⟨(Kd.struct [(0, 146), (8, 59), (9, 3)]), 10, 64, (V.agg [(V.int .u32 0), (V.int .u32 0), (V.int .u32 0), (V.int .u32 0), (V.int .u32 0), (V.int .u32 0), (V.int .u32 0), (V.int .u32 0), (V.slice none 0 0 true), (V.int .i64 0)])⟩
def ti205 : TI := ⟨(Kd.struct [(0, 146), (8, 59), (9, 3)]), 10, 64, (V.agg [(V.int .u32 0), (V.int .u32 0), (V.int .u32 0), (V.int .u32 0), (V.int .u32 0), (V.int .u32 0), (V.int .u32 0), (V.int .u32 0), (V.slice none 0 0 true), (V.int .i64 0)])⟩
def ti206 : TI := ⟨(Kd.int .u64), 1, 8, (V.int .u64 0)⟩
def ti207 : TI := ⟨Kd.func, 1, 8, V.nilFunc⟩
def ti208 : TI := ⟨Kd.func, 1, 8, V.nilFunc⟩
def ti209 : TI := ⟨Kd.func, 1, 8, V.nilFunc⟩
def ti210 : TI := ⟨(Kd.ptr 3), 1, 8, (V.ptr none)⟩
def ti211 : TI := ⟨Kd.func, 1, 8, V.nilFunc⟩
def ti212 : TI := ⟨Kd.func, 1, 8, V.nilFunc⟩
def ti213 : TI := ⟨Kd.func, 1, 8, V.nilFunc⟩
def ti214 : TI := ⟨(Kd.ptr 206), 1, 8, (V.ptr none)⟩
def ti216 : TI := ⟨Kd.func, 1, 8, V.nilFunc⟩
def ti217 : TI := ⟨Kd.func, 1, 8, V.nilFunc⟩
def ti218 : TI := ⟨Kd.func, 1, 8, V.nilFunc⟩
def ti219 : TI := ⟨(Kd.struct [(0, 17), (1, 17), (2, 17), (3, 9)]), 4, 40, (V.agg [(V.ptr none), (V.ptr none), (V.ptr none), (V.str [])])⟩
def ti220 : TI := ⟨(Kd.struct [(0, 17), (1, 17), (2, 17), (3, 9)]), 4, 40, (V.agg [(V.ptr none), (V.ptr none), (V.ptr none), (V.str [])])⟩
def ti221 : TI := ⟨(Kd.arr 0 16), 0, 0, (V.agg [])⟩
def ti222 : TI := ⟨(Kd.struct [(0, 221)]), 0, 0, (V.agg [])⟩
def ti223 : TI := ⟨(Kd.struct [(0, 221)]), 0, 0, (V.agg [])⟩
def ti224 : TI := ⟨(Kd.int .u8), 1, 1, (V.int .u8 0)⟩
def ti225 : TI := ⟨(Kd.int .u8), 1, 1, (V.int .u8 0)⟩
def ti226 : TI := ⟨Kd.func, 1, 8, V.nilFunc⟩
def ti227 : TI := ⟨(Kd.ptr 5), 1, 8, (V.ptr none)⟩
def ti228 : TI := ⟨(Kd.int .i32), 1, 4, (V.int .i32 0)⟩
def ti229 : TI := ⟨(Kd.int .i32), 1, 4, (V.int .i32 0)⟩
def ti230 : TI := ⟨(Kd.struct [(0, 12), (1, 12), (2, 145), (3, 224), (4, 5), (5, 5), (6, 225), (7, 226), (8, 227), (9, 228), (10, 229)]), 11, 48, (V.agg [(V.int .u64 0), (V.int .u64 0), (V.int .u32 0), (V.int .u8 0), (V.int .u8 0), (V.int .u8 0), (V.int .u8 0), V.nilFunc, (V.ptr none), (V.int .i32 0), (V.int .i32 0)])⟩
def ti231 : TI := ⟨(Kd.struct [(0, 12), (1, 12), (2, 145), (3, 224), (4, 5), (5, 5), (6, 225), (7, 226), (8, 227), (9, 228), (10, 229)]), 11, 48, (V.agg [(V.int .u64 0), (V.int .u64 0), (V.int .u32 0), (V.int .u8 0), (V.int .u8 0), (V.int .u8 0), (V.int .u8 0), V.nilFunc, (V.ptr none), (V.int .i32 0), (V.int .i32 0)])⟩
def tyL : List (Option TI) := [none, some ti1, some ti2, some ti3, some ti4, some ti5, some ti6, some ti7, some ti8, some ti9, some ti10, some ti11, some ti12, some ti13, some ti14, some ti15, some ti16, some ti17, some ti18, some ti19, some ti20, some ti21, some ti22, some ti23, some ti24, none, some ti26, some ti27, some ti28, some ti29, some ti30, some ti31, some ti32, none, some ti34, some ti35, some ti36, some ti37, some ti38, some ti39, none, some ti41, some ti42, some ti43, some ti44, some ti45, some ti46, some ti47, some ti48, some ti49, some ti50, some ti51, some ti52, some ti53, some ti54, some ti55, some ti56, some ti57, some ti58, some ti59, none, some ti61, some ti62, some ti63, some ti64, some ti65, some ti66, some ti67, some ti68, some ti69, some ti70, some ti71, some ti72, some ti73, some ti74, some ti75, some ti76, some ti77, none, some ti79, some ti80, some ti81, some ti82, some ti83, some ti84, some ti85, some ti86, some ti87, some ti88, some ti89, some ti90, some ti91, some ti92, some ti93, some ti94, some ti95, some ti96, some ti97, some ti98, some ti99, some ti100, some ti101, some ti102, none, some ti104, some ti105, some ti106, some ti107, some ti108, some ti109, some ti110, some ti111, some ti112, none, some ti114, some ti115, some ti116, some ti117, some ti118, some ti119, some ti120, some ti121, some ti122, none, some ti124, some ti125, some ti126, some ti127, some ti128, some ti129, some ti130, some ti131, some ti132, none, some ti134, some ti135, some ti136, some ti137, some ti138, some ti139, some ti140, some ti141, some ti142, some ti143, some ti144, some ti145, some ti146, some ti147, some ti148, none, some ti150, some ti151, some ti152, some ti153, some ti154, some ti155, some ti156, some ti157, some ti158, some ti159, some ti160, some ti161, some ti162, some ti163, some ti164, some ti165, some ti166, some ti167, some ti168, some ti169, some ti170, some ti171, some ti172, some ti173, some ti174, some ti175, some ti176, some ti177, some ti178, some ti179, some ti180, some ti181, some ti182, some ti183, some ti184, some ti185, some ti186, some ti187, some ti188, some ti189, none, some ti191, some ti192, some ti193, some ti194, none, some ti196, some ti197, some ti198, some ti199, some ti200, some ti201, some ti202, some ti203, some ti204, some ti205, some ti206, some ti207, some ti208, some ti209, some ti210, some ti211, some ti212, some ti213, some ti214, none, some ti216, some ti217, some ti218, some ti219, some ti220, some ti221, some ti222, some ti223, some ti224, some ti225, some ti226, some ti227, some ti228, some ti229, some ti230, some ti231, none]
def ty : TypeId → Option TI := tabT tyL
theorem ti1_e : tiOf Tryz.prog 1 = some ti1 := by kernel_rfl
theorem ti2_e : tiOf Tryz.prog 2 = some ti2 := by kernel_rfl
theorem ti3_e : tiOf Tryz.prog 3 = some ti3 := by kernel_rfl
theorem ti4_e : tiOf Tryz.prog 4 = some ti4 := by kernel_rfl
theorem ti5_e : tiOf Tryz.prog 5 = some ti5 := by kernel_rfl
theorem ti6_e : tiOf Tryz.prog 6 = some ti6 := by kernel_rfl
theorem ti7_e : tiOf Tryz.prog 7 = some ti7 := by kernel_rfl
theorem ti8_e : tiOf Tryz.prog 8 = some ti8 := by kernel_rfl
theorem ti9_e : tiOf Tryz.prog 9 = some ti9 := by kernel_rfl
theorem ti10_e : tiOf Tryz.prog 10 = some ti10 := by kernel_rfl
theorem ti11_e : tiOf Tryz.prog 11 = some ti11 := by kernel_rfl
theorem ti12_e : tiOf Tryz.prog 12 = some ti12 := by kernel_rfl
theorem ti13_e : tiOf Tryz.prog 13 = some ti13 := by kernel_rfl
theorem ti14_e : tiOf Tryz.prog 14 = some ti14 := by kernel_rfl
theorem ti15_e : tiOf Tryz.prog 15 = some ti15 := by kernel_rfl
theorem ti16_e : tiOf Tryz.prog 16 = some ti16 := by kernel_rfl
theorem ti17_e : tiOf Tryz.prog 17 = some ti17 := by kernel_rfl
theorem ti18_e : tiOf Tryz.prog 18 = some ti18 := by kernel_rfl
theorem ti19_e : tiOf Tryz.prog 19 = some ti19 := by kernel_rfl
theorem ti20_e : tiOf Tryz.prog 20 = some ti20 := by kernel_rfl
theorem ti21_e : tiOf Tryz.prog 21 = some ti21 := by kernel_rfl
theorem ti22_e : tiOf Tryz.prog 22 = some ti22 := by kernel_rfl
theorem ti23_e : tiOf Tryz.prog 23 = some ti23 := by kernel_rfl
theorem ti24_e : tiOf Tryz.prog 24 = some ti24 := by kernel_rfl
theorem ti26_e : tiOf Tryz.prog 26 = some ti26 := by kernel_rfl
theorem ti27_e : tiOf Tryz.prog 27 = some ti27 := by kernel_rfl
theorem ti28_e : tiOf Tryz.prog 28 = some ti28 := by kernel_rfl
theorem ti29_e : tiOf Tryz.prog 29 = some ti29 := by kernel_rfl
theorem ti30_e : tiOf Tryz.prog 30 = some ti30 := by kernel_rfl
theorem ti31_e : tiOf Tryz.prog 31 = some ti31 := by kernel_rfl
theorem ti32_e : tiOf Tryz.prog 32 = some ti32 := by kernel_rfl
theorem ti34_e : tiOf Tryz.prog 34 = some ti34 := by kernel_rfl
theorem ti35_e : tiOf Tryz.prog 35 = some ti35 := by kernel_rfl
theorem ti36_e : tiOf Tryz.prog 36 = some ti36 := by kernel_rfl
theorem ti37_e : tiOf Tryz.prog 37 = some ti37 := by kernel_rfl
theorem ti38_e : tiOf Tryz.prog 38 = some ti38 := by kernel_rfl
theorem ti39_e : tiOf Tryz.prog 39 = some ti39 := by kernel_rfl
theorem ti41_e : tiOf Tryz.prog 41 = some ti41 := by kernel_rfl
theorem ti42_e : tiOf Tryz.prog 42 = some ti42 := by kernel_rfl
theorem ti43_e : tiOf Tryz.prog 43 = some ti43 := by kernel_rfl
theorem ti44_e : tiOf Tryz.prog 44 = some ti44 := by kernel_rfl
theorem ti45_e : tiOf Tryz.prog 45 = some ti45 := by kernel_rfl
theorem ti46_e : tiOf Tryz.prog 46 = some ti46 := by kernel_rfl
theorem ti47_e : tiOf Tryz.prog 47 = some ti47 := by kernel_rfl
theorem ti48_e : tiOf Tryz.prog 48 = some ti48 := by kernel_rfl
theorem ti49_e : tiOf Tryz.prog 49 = some ti49 := by kernel_rfl
theorem ti50_e : tiOf Tryz.prog 50 = some ti50 := by kernel_rfl
theorem ti51_e : tiOf Tryz.prog 51 = some ti51 := by kernel_rfl
theorem ti52_e : tiOf Tryz.prog 52 = some ti52 := by kernel_rfl
theorem ti53_e : tiOf Tryz.prog 53 = some ti53 := by kernel_rfl
theorem ti54_e : tiOf Tryz.prog 54 = some ti54 := by kernel_rfl
theorem ti55_e : tiOf Tryz.prog 55 = some ti55 := by kernel_rfl
theorem ti56_e : tiOf Tryz.prog 56 = some ti56 := by kernel_rfl
theorem ti57_e : tiOf Tryz.prog 57 = some ti57 := by kernel_rfl
theorem ti58_e : tiOf Tryz.prog 58 = some ti58 := by kernel_rfl
theorem ti59_e : tiOf Tryz.prog 59 = some ti59 := by kernel_rfl
theorem ti61_e : tiOf Tryz.prog 61 = some ti61 := by kernel_rfl
theorem ti62_e : tiOf Tryz.prog 62 = some ti62 := by kernel_rfl
theorem ti63_e : tiOf Tryz.prog 63 = some ti63 := by kernel_rfl
theorem ti64_e : tiOf Tryz.prog 64 = some ti64 := by kernel_rfl
theorem ti65_e : tiOf Tryz.prog 65 = some ti65 := by kernel_rfl
theorem ti66_e : tiOf Tryz.prog 66 = some ti66 := by kernel_rfl
theorem ti67_e : tiOf Tryz.prog 67 = some ti67 := by kernel_rfl
theorem ti68_e : tiOf Tryz.prog 68 = some ti68 := by kernel_rfl
theorem ti69_e : tiOf Tryz.prog 69 = some ti69 := by kernel_rfl
theorem ti70_e : tiOf Tryz.prog 70 = some ti70 := by kernel_rfl
theorem ti71_e : tiOf Tryz.prog 71 = some ti71 := by kernel_rfl
theorem ti72_e : tiOf Tryz.prog 72 = some ti72 := by kernel_rfl
theorem ti73_e : tiOf Tryz.prog 73 = some ti73 := by kernel_rfl
theorem ti74_e : tiOf Tryz.prog 74 = some ti74 := by kernel_rfl
theorem ti75_e : tiOf Tryz.prog 75 = some ti75 := by kernel_rfl
theorem ti76_e : tiOf Tryz.prog 76 = some ti76 := by kernel_rfl
theorem ti77_e : tiOf Tryz.prog 77 = some ti77 := by kernel_rfl
theorem ti79_e : tiOf Tryz.prog 79 = some ti79 := by kernel_rfl
theorem ti80_e : tiOf Tryz.prog 80 = some ti80 := by kernel_rfl
theorem ti81_e : tiOf Tryz.prog 81 = some ti81 := by kernel_rfl
theorem ti82_e : tiOf Tryz.prog 82 = some ti82 := by kernel_rfl
theorem ti83_e : tiOf Tryz.prog 83 = some ti83 := by kernel_rfl
theorem ti84_e : tiOf Tryz.prog 84 = some ti84 := by kernel_rfl
theorem ti85_e : tiOf Tryz.prog 85 = some ti85 := by kernel_rfl
theorem ti86_e : tiOf Tryz.prog 86 = some ti86 := by kernel_rfl
theorem ti87_e : tiOf Tryz.prog 87 = some ti87 := by kernel_rfl
theorem ti88_e : tiOf Tryz.prog 88 = some ti88 := by kernel_rfl
theorem ti89_e : tiOf Tryz.prog 89 = some ti89 := by kernel_rfl
theorem ti90_e : tiOf Tryz.prog 90 = some ti90 := by kernel_rfl
theorem ti91_e : tiOf Tryz.prog 91 = some ti91 := by kernel_rfl
theorem ti92_e : tiOf Tryz.prog 92 = some ti92 := by kernel_rfl
theorem ti93_e : tiOf Tryz.prog 93 = some ti93 := by kernel_rfl
theorem ti94_e : tiOf Tryz.prog 94 = some ti94 := by kernel_rfl
theorem ti95_e : tiOf Tryz.prog 95 = some ti95 := by kernel_rfl
theorem ti96_e : tiOf Tryz.prog 96 = some ti96 := by kernel_rfl
theorem ti97_e : tiOf Tryz.prog 97 = some ti97 := by kernel_rfl
theorem ti98_e : tiOf Tryz.prog 98 = some ti98 := by kernel_rfl
theorem ti99_e : tiOf Tryz.prog 99 = some ti99 := by kernel_rfl
theorem ti100_e : tiOf Tryz.prog 100 = some ti100 := by kernel_rfl
theorem ti101_e : tiOf Tryz.prog 101 = some ti101 := by kernel_rfl
theorem ti102_e : tiOf Tryz.prog 102 = some ti102 := by kernel_rfl
theorem ti104_e : tiOf Tryz.prog 104 = some ti104 := by kernel_rfl
theorem ti105_e : tiOf Tryz.prog 105 = some ti105 := by kernel_rfl
theorem ti106_e : tiOf Tryz.prog 106 = some ti106 := by kernel_rfl
theorem ti107_e : tiOf Tryz.prog 107 = some ti107 := by kernel_rfl
theorem ti108_e : tiOf Tryz.prog 108 = some ti108 := by kernel_rfl
theorem ti109_e : tiOf Tryz.prog 109 = some ti109 := by kernel_rfl
theorem ti110_e : tiOf Tryz.prog 110 = some ti110 := by kernel_rfl
theorem ti111_e : tiOf Tryz.prog 111 = some ti111 := by kernel_rfl
theorem ti112_e : tiOf Tryz.prog 112 = some ti112 := by kernel_rfl
theorem ti114_e : tiOf Tryz.prog 114 = some ti114 := by kernel_rfl
theorem ti115_e : tiOf Tryz.prog 115 = some ti115 := by kernel_rfl
theorem ti116_e : tiOf Tryz.prog 116 = some ti116 := by kernel_rfl
theorem ti117_e : tiOf Tryz.prog 117 = some ti117 := by kernel_rfl
theorem ti118_e : tiOf Tryz.prog 118 = some ti118 := by kernel_rfl
theorem ti119_e : tiOf Tryz.prog 119 = some ti119 := by kernel_rfl
theorem ti120_e : tiOf Tryz.prog 120 = some ti120 := by kernel_rfl
theorem ti121_e : tiOf Tryz.prog 121 = some ti121 := by kernel_rfl
theorem ti122_e : tiOf Tryz.prog 122 = some ti122 := by kernel_rfl
theorem ti124_e : tiOf Tryz.prog 124 = some ti124 := by kernel_rfl
theorem ti125_e : tiOf Tryz.prog 125 = some ti125 := by kernel_rfl
theorem ti126_e : tiOf Tryz.prog 126 = some ti126 := by kernel_rfl
theorem ti127_e : tiOf Tryz.prog 127 = some ti127 := by kernel_rfl
theorem ti128_e : tiOf Tryz.prog 128 = some ti128 := by kernel_rfl
theorem ti129_e : tiOf Tryz.prog 129 = some ti129 := by kernel_rfl
theorem ti130_e : tiOf Tryz.prog 130 = some ti130 := by kernel_rfl
theorem ti131_e : tiOf Tryz.prog 131 = some ti131 := by kernel_rfl
theorem ti132_e : tiOf Tryz.prog 132 = some ti132 := by kernel_rfl
theorem ti134_e : tiOf Tryz.prog 134 = some ti134 := by kernel_rfl
theorem ti135_e : tiOf Tryz.prog 135 = some ti135 := by kernel_rfl
theorem ti136_e : tiOf Tryz.prog 136 = some ti136 := by kernel_rfl
theorem ti137_e : tiOf Tryz.prog 137 = some ti137 := by kernel_rfl
theorem ti138_e : tiOf Tryz.prog 138 = some ti138 := by kernel_rfl
theorem ti139_e : tiOf Tryz.prog 139 = some ti139 := by kernel_rfl
theorem ti140_e : tiOf Tryz.prog 140 = some ti140 := by kernel_rfl
theorem ti141_e : tiOf Tryz.prog 141 = some ti141 := by kernel_rfl
theorem ti142_e : tiOf Tryz.prog 142 = some ti142 := by kernel_rfl
theorem ti143_e : tiOf Tryz.prog 143 = some ti143 := by kernel_rfl
theorem ti144_e : tiOf Tryz.prog 144 = some ti144 := by kernel_rfl
theorem ti145_e : tiOf Tryz.prog 145 = some ti145 := by kernel_rfl
theorem ti146_e : tiOf Tryz.prog 146 = some ti146 := by kernel_rfl
theorem ti147_e : tiOf Tryz.prog 147 = some ti147 := by kernel_rfl
theorem ti148_e : tiOf Tryz.prog 148 = some ti148 := by kernel_rfl
theorem ti150_e : tiOf Tryz.prog 150 = some ti150 := by kernel_rfl
theorem ti151_e : tiOf Tryz.prog 151 = some ti151 := by kernel_rfl
theorem ti152_e : tiOf Tryz.prog 152 = some ti152 := by kernel_rfl
theorem ti153_e : tiOf Tryz.prog 153 = some ti153 := by kernel_rfl
theorem ti154_e : tiOf Tryz.prog 154 = some ti154 := by kernel_rfl
theorem ti155_e : tiOf Tryz.prog 155 = some ti155 := by kernel_rfl
theorem ti156_e : tiOf Tryz.prog 156 = some ti156 := by kernel_rfl
theorem ti157_e : tiOf Tryz.prog 157 = some ti157 := by kernel_rfl
theorem ti158_e : tiOf Tryz.prog 158 = some ti158 := by kernel_rfl
theorem ti159_e : tiOf Tryz.prog 159 = some ti159 := by kernel_rfl
theorem ti160_e : tiOf Tryz.prog 160 = some ti160 := by kernel_rfl
theorem ti161_e : tiOf Tryz.prog 161 = some ti161 := by kernel_rfl
theorem ti162_e : tiOf Tryz.prog 162 = some ti162 := by kernel_rfl
theorem ti163_e : tiOf Tryz.prog 163 = some ti163 := by kernel_rfl
theorem ti164_e : tiOf Tryz.prog 164 = some ti164 := by kernel_rfl
theorem ti165_e : tiOf Tryz.prog 165 = some ti165 := by kernel_rfl
theorem ti166_e : tiOf Tryz.prog 166 = some ti166 := by kernel_rfl
theorem ti167_e : tiOf Tryz.prog 167 = some ti167 := by kernel_rfl
theorem ti168_e : tiOf Tryz.prog 168 = some ti168 := by kernel_rfl
theorem ti169_e : tiOf Tryz.prog 169 = some ti169 := by kernel_rfl
theorem ti170_e : tiOf Tryz.prog 170 = some ti170 := by kernel_rfl
theorem ti171_e : tiOf Tryz.prog 171 = some ti171 := by kernel_rfl
theorem ti172_e : tiOf Tryz.prog 172 = some ti172 := by kernel_rfl
theorem ti173_e : tiOf Tryz.prog 173 = some ti173 := by kernel_rfl
theorem ti174_e : tiOf Tryz.prog 174 = some ti174 := by kernel_rfl
theorem ti175_e : tiOf Tryz.prog 175 = some ti175 := by kernel_rfl
theorem ti176_e : tiOf Tryz.prog 176 = some ti176 := by kernel_rfl
theorem ti177_e : tiOf Tryz.prog 177 = some ti177 := by kernel_rfl
theorem ti178_e : tiOf Tryz.prog 178 = some ti178 := by kernel_rfl
theorem ti179_e : tiOf Tryz.prog 179 = some ti179 := by kernel_rfl
theorem ti180_e : tiOf Tryz.prog 180 = some ti180 := by kernel_rfl
theorem ti181_e : tiOf Tryz.prog 181 = some ti181 := by kernel_rfl
theorem ti182_e : tiOf Tryz.prog 182 = some ti182 := by kernel_rfl
theorem ti183_e : tiOf Tryz.prog 183 = some ti183 := by kernel_rfl
theorem ti184_e : tiOf Tryz.prog 184 = some ti184 := by kernel_rfl
theorem ti185_e : tiOf Tryz.prog 185 = some ti185 := by kernel_rfl
theorem ti186_e : tiOf Tryz.prog 186 = some ti186 := by kernel_rfl
theorem ti187_e : tiOf Tryz.prog 187 = some ti187 := by kernel_rfl
theorem ti188_e : tiOf Tryz.prog 188 = some ti188 := by kernel_rfl
theorem ti189_e : tiOf Tryz.prog 189 = some ti189 := by kernel_rfl
theorem ti191_e : tiOf Tryz.prog 191 = some ti191 := by kernel_rfl
theorem ti192_e : tiOf Tryz.prog 192 = some ti192 := by kernel_rfl
theorem ti193_e : tiOf Tryz.prog 193 = some ti193 := by kernel_rfl
theorem ti194_e : tiOf Tryz.prog 194 = some ti194 := by kernel_rfl
theorem ti196_e : tiOf Tryz.prog 196 = some ti196 := by kernel_rfl
theorem ti197_e : tiOf Tryz.prog 197 = some ti197 := by kernel_rfl
theorem ti198_e : tiOf Tryz.prog 198 = some ti198 := by kernel_rfl
theorem ti199_e : tiOf Tryz.prog 199 = some ti199 := by kernel_rfl
theorem ti200_e : tiOf Tryz.prog 200 = some ti200 := by kernel_rfl
theorem ti201_e : tiOf Tryz.prog 201 = some ti201 := by kernel_rfl
theorem ti202_e : tiOf Tryz.prog 202 = some ti202 := by kernel_rfl
theorem ti203_e : tiOf Tryz.prog 203 = some ti203 := by kernel_rfl
theorem ti204_e : tiOf Tryz.prog 204 = some ti204 := by kernel_rfl
theorem ti205_e : tiOf Tryz.prog 205 = some ti205 := by kernel_rfl
theorem ti206_e : tiOf Tryz.prog 206 = some ti206 := by kernel_rfl
theorem ti207_e : tiOf Tryz.prog 207 = some ti207 := by kernel_rfl
theorem ti208_e : tiOf Tryz.prog 208 = some ti208 := by kernel_rfl
theorem ti209_e : tiOf Tryz.prog 209 = some ti209 := by kernel_rfl
theorem ti210_e : tiOf Tryz.prog 210 = some ti210 := by kernel_rfl
theorem ti211_e : tiOf Tryz.prog 211 = some ti211 := by kernel_rfl
theorem ti212_e : tiOf Tryz.prog 212 = some ti212 := by kernel_rfl
theorem ti213_e : tiOf Tryz.prog 213 = some ti213 := by kernel_rfl
theorem ti214_e : tiOf Tryz.prog 214 = some ti214 := by kernel_rfl
theorem ti216_e : tiOf Tryz.prog 216 = some ti216 := by kernel_rfl
theorem ti217_e : tiOf Tryz.prog 217 = some ti217 := by kernel_rfl
theorem ti218_e : tiOf Tryz.prog 218 = some ti218 := by kernel_rfl
theorem ti219_e : tiOf Tryz.prog 219 = some ti219 := by kernel_rfl
theorem ti220_e : tiOf Tryz.prog 220 = some ti220 := by kernel_rfl
theorem ti221_e : tiOf Tryz.prog 221 = some ti221 := by kernel_rfl
theorem ti222_e : tiOf Tryz.prog 222 = some ti222 := by kernel_rfl
theorem ti223_e : tiOf Tryz.prog 223 = some ti223 := by kernel_rfl
theorem ti224_e : tiOf Tryz.prog 224 = some ti224 := by kernel_rfl
theorem ti225_e : tiOf Tryz.prog 225 = some ti225 := by kernel_rfl
theorem ti226_e : tiOf Tryz.prog 226 = some ti226 := by kernel_rfl
theorem ti227_e : tiOf Tryz.prog 227 = some ti227 := by kernel_rfl
theorem ti228_e : tiOf Tryz.prog 228 = some ti228 := by kernel_rfl
theorem ti229_e : tiOf Tryz.prog 229 = some ti229 := by kernel_rfl
theorem ti230_e : tiOf Tryz.prog 230 = some ti230 := by kernel_rfl
theorem ti231_e : tiOf Tryz.prog 231 = some ti231 := by kernel_rfl
@[simp] theorem ty_3 : ty 3 = some ti3 := by kernel_rfl
@[simp] theorem ti3_size : ti3.size = 1 := rfl
@[simp] theorem ti3_agg : isAggK ti3.kind = false := rfl
@[simp] theorem ty_4 : ty 4 = some ti4 := by kernel_rfl
@[simp] theorem ti4_size : ti4.size = 1 := rfl
@[simp] theorem ti4_agg : isAggK ti4.kind = false := rfl
@[simp] theorem ty_23 : ty 23 = some ti23 := by kernel_rfl
@[simp] theorem ti23_size : ti23.size = 1 := rfl
@[simp] theorem ti23_agg : isAggK ti23.kind = false := rfl
@[simp] theorem ty_24 : ty 24 = some ti24 := by kernel_rfl
@[simp] theorem ti24_size : ti24.size = 1 := rfl
@[simp] theorem ti24_agg : isAggK ti24.kind = false := rfl
@[simp] theorem ty_27 : ty 27 = some ti27 := by kernel_rfl
@[simp] theorem ti27_size : ti27.size = 1 := rfl
@[simp] theorem ti27_agg : isAggK ti27.kind = false := rfl
@[simp] theorem ty_35 : ty 35 = some ti35 := by kernel_rfl
@[simp] theorem ti35_size : ti35.size = 1 := rfl
@[simp] theorem ti35_agg : isAggK ti35.kind = false := rfl
@[simp] theorem ty_37 : ty 37 = some ti37 := by kernel_rfl
@[simp] theorem ti37_size : ti37.size = 3 := rfl
@[simp] theorem ti37_agg : isAggK ti37.kind = true := rfl
@[simp] theorem ty_39 : ty 39 = some ti39 := by kernel_rfl
@[simp] theorem ti39_size : ti39.size = 1 := rfl
@[simp] theorem ti39_agg : isAggK ti39.kind = false := rfl
@[simp] theorem ty_52 : ty 52 = some ti52 := by kernel_rfl
@[simp] theorem ti52_size : ti52.size = 1 := rfl
@[simp] theorem ti52_agg : isAggK ti52.kind = false := rfl
@[simp] theorem ty_54 : ty 54 = some ti54 := by kernel_rfl
@[simp] theorem ti54_size : ti54.size = 1 := rfl
@[simp] theorem ti54_agg : isAggK ti54.kind = false := rfl
@[simp] theorem ty_56 : ty 56 = some ti56 := by kernel_rfl
@[simp] theorem ti56_size : ti56.size = 1 := rfl
@[simp] theorem ti56_agg : isAggK ti56.kind = false := rfl
@[simp] theorem ty_59 : ty 59 = some ti59 := by kernel_rfl
@[simp] theorem ti59_size : ti59.size = 1 := rfl
@[simp] theorem ti59_agg : isAggK ti59.kind = false := rfl
@[simp] theorem ty_66 : ty 66 = some ti66 := by kernel_rfl
@[simp] theorem ti66_size : ti66.size = 1 := rfl
@[simp] theorem ti66_agg : isAggK ti66.kind = false := rfl
@[simp] theorem ty_67 : ty 67 = some ti67 := by kernel_rfl
@[simp] theorem ti67_size : ti67.size = 1 := rfl
@[simp] theorem ti67_agg : isAggK ti67.kind = false := rfl
@[simp] theorem ty_85 : ty 85 = some ti85 := by kernel_rfl
@[simp] theorem ti85_size : ti85.size = 1 := rfl
@[simp] theorem ti85_agg : isAggK ti85.kind = false := rfl
@[simp] theorem ty_100 : ty 100 = some ti100 := by kernel_rfl
@[simp] theorem ti100_size : ti100.size = 32 := rfl
@[simp] theorem ti100_agg : isAggK ti100.kind = true := rfl
@[simp] theorem ty_106 : ty 106 = some ti106 := by kernel_rfl
@[simp] theorem ti106_size : ti106.size = 1 := rfl
@[simp] theorem ti106_agg : isAggK ti106.kind = false := rfl
@[simp] theorem ty_145 : ty 145 = some ti145 := by kernel_rfl
@[simp] theorem ti145_size : ti145.size = 1 := rfl
@[simp] theorem ti145_agg : isAggK ti145.kind = false := rfl
@[simp] theorem ty_146 : ty 146 = some ti146 := by kernel_rfl
@[simp] theorem ti146_size : ti146.size = 8 := rfl
@[simp] theorem ti146_agg : isAggK ti146.kind = true := rfl
@[simp] theorem ty_166 : ty 166 = some ti166 := by kernel_rfl
@[simp] theorem ti166_size : ti166.size = 64 := rfl
@[simp] theorem ti166_agg : isAggK ti166.kind = true := rfl
def mL : List (Nat × String × Nat) := [(23, "Accept", 12), (23, "Dead", 29), (23, "Floor", 18), (23, "Forget", 17), (23, "Prepare", 14), (23, "Promised", 11), (23, "Votes", 16), (23, "sealchain/vote.above", 46), (23, "sealchain/vote.does", 36), (23, "sealchain/vote.live", 40), (23, "sealchain/vote.none", 39), (23, "sealchain/vote.room", 43), (23, "sealchain/vote.writes", 45), (27, "Arm", 28), (27, "Crash", 30), (27, "Cut", 65), (27, "Dead", 31), (27, "Read", 60), (27, "Revive", 32), (27, "Swap", 98), (27, "Sync", 24), (27, "Write", 22), (27, "sealchain/disk.live", 52), (27, "sealchain/disk.none", 64), (27, "sealchain/disk.tear", 62), (53, "sealchain/sealchainlaw15.open", 26), (53, "sealchain/sealchainlaw15.same", 27), (54, "Cut", 130), (54, "Revive", 56), (54, "Sync", 25), (54, "Write", 23), (54, "sealchain/sealchainref13.cut", 101), (54, "sealchain/sealchainref13.fails", 55), (56, "sealchain/sealchainref15.above", 138), (56, "sealchain/sealchainref15.done", 103), (56, "sealchain/sealchainref15.lay", 137), (66, "Add", 85), (66, "Dead", 63), (66, "Rows", 35), (66, "Swap", 50), (66, "sealchain/wal.did", 97), (66, "sealchain/wal.live", 95), (66, "sealchain/wal.none", 67), (73, "sealchain/sealchainlaw15.holds", 33), (92, "sealchain/vote.bytes", 49), (93, "sealchain/vote.bytes", 47), (96, "sealchain/vote.bytes", 48), (120, "Count", 73), (120, "End", 76), (120, "Err", 108), (120, "Left", 113), (120, "Num", 72), (120, "Raw", 111), (120, "Text", 75), (120, "sealchain/num.fail", 110), (137, "Bytes", 121), (137, "Count", 92), (137, "Num", 91), (137, "Raw", 124), (137, "Text", 94), (137, "sealchain/num.put", 122), (170, "Count", 133), (170, "End", 136), (170, "Err", 148), (170, "Num", 132), (170, "Raw", 147), (170, "Text", 134), (170, "sealchain/sealchainref01.fail", 146), (183, "Copy", 181), (183, "Sum", 154), (183, "Write", 153), (183, "sealchain/sha.words", 179), (214, "Next", 184)]
def meth : TypeId → String → Option FuncId := tabM mL
theorem tab : TabOk Tryz.prog ty meth :=
  mkTab (show AllT Tryz.prog 0 tyL from ⟨trivial, ti1_e, ti2_e, ti3_e, ti4_e, ti5_e, ti6_e, ti7_e, ti8_e, ti9_e, ti10_e, ti11_e, ti12_e, ti13_e, ti14_e, ti15_e, ti16_e, ti17_e, ti18_e, ti19_e, ti20_e, ti21_e, ti22_e, ti23_e, ti24_e, trivial, ti26_e, ti27_e, ti28_e, ti29_e, ti30_e, ti31_e, ti32_e, trivial, ti34_e, ti35_e, ti36_e, ti37_e, ti38_e, ti39_e, trivial, ti41_e, ti42_e, ti43_e, ti44_e, ti45_e, ti46_e, ti47_e, ti48_e, ti49_e, ti50_e, ti51_e, ti52_e, ti53_e, ti54_e, ti55_e, ti56_e, ti57_e, ti58_e, ti59_e, trivial, ti61_e, ti62_e, ti63_e, ti64_e, ti65_e, ti66_e, ti67_e, ti68_e, ti69_e, ti70_e, ti71_e, ti72_e, ti73_e, ti74_e, ti75_e, ti76_e, ti77_e, trivial, ti79_e, ti80_e, ti81_e, ti82_e, ti83_e, ti84_e, ti85_e, ti86_e, ti87_e, ti88_e, ti89_e, ti90_e, ti91_e, ti92_e, ti93_e, ti94_e, ti95_e, ti96_e, ti97_e, ti98_e, ti99_e, ti100_e, ti101_e, ti102_e, trivial, ti104_e, ti105_e, ti106_e, ti107_e, ti108_e, ti109_e, ti110_e, ti111_e, ti112_e, trivial, ti114_e, ti115_e, ti116_e, ti117_e, ti118_e, ti119_e, ti120_e, ti121_e, ti122_e, trivial, ti124_e, ti125_e, ti126_e, ti127_e, ti128_e, ti129_e, ti130_e, ti131_e, ti132_e, trivial, ti134_e, ti135_e, ti136_e, ti137_e, ti138_e, ti139_e, ti140_e, ti141_e, ti142_e, ti143_e, ti144_e, ti145_e, ti146_e, ti147_e, ti148_e, trivial, ti150_e, ti151_e, ti152_e, ti153_e, ti154_e, ti155_e, ti156_e, ti157_e, ti158_e, ti159_e, ti160_e, ti161_e, ti162_e, ti163_e, ti164_e, ti165_e, ti166_e, ti167_e, ti168_e, ti169_e, ti170_e, ti171_e, ti172_e, ti173_e, ti174_e, ti175_e, ti176_e, ti177_e, ti178_e, ti179_e, ti180_e, ti181_e, ti182_e, ti183_e, ti184_e, ti185_e, ti186_e, ti187_e, ti188_e, ti189_e, trivial, ti191_e, ti192_e, ti193_e, ti194_e, trivial, ti196_e, ti197_e, ti198_e, ti199_e, ti200_e, ti201_e, ti202_e, ti203_e, ti204_e, ti205_e, ti206_e, ti207_e, ti208_e, ti209_e, ti210_e, ti211_e, ti212_e, ti213_e, ti214_e, trivial, ti216_e, ti217_e, ti218_e, ti219_e, ti220_e, ti221_e, ti222_e, ti223_e, ti224_e, ti225_e, ti226_e, ti227_e, ti228_e, ti229_e, ti230_e, ti231_e, trivial, trivial⟩) (show AllM Tryz.prog mL from ⟨by kernel_rfl, by kernel_rfl, by kernel_rfl, by kernel_rfl, by kernel_rfl, by kernel_rfl, by kernel_rfl, by kernel_rfl, by kernel_rfl, by kernel_rfl, by kernel_rfl, by kernel_rfl, by kernel_rfl, by kernel_rfl, by kernel_rfl, by kernel_rfl, by kernel_rfl, by kernel_rfl, by kernel_rfl, by kernel_rfl, by kernel_rfl, by kernel_rfl, by kernel_rfl, by kernel_rfl, by kernel_rfl, by kernel_rfl, by kernel_rfl, by kernel_rfl, by kernel_rfl, by kernel_rfl, by kernel_rfl, by kernel_rfl, by kernel_rfl, by kernel_rfl, by kernel_rfl, by kernel_rfl, by kernel_rfl, by kernel_rfl, by kernel_rfl, by kernel_rfl, by kernel_rfl, by kernel_rfl, by kernel_rfl, by kernel_rfl, by kernel_rfl, by kernel_rfl, by kernel_rfl, by kernel_rfl, by kernel_rfl, by kernel_rfl, by kernel_rfl, by kernel_rfl, by kernel_rfl, by kernel_rfl, by kernel_rfl, by kernel_rfl, by kernel_rfl, by kernel_rfl, by kernel_rfl, by kernel_rfl, by kernel_rfl, by kernel_rfl, by kernel_rfl, by kernel_rfl, by kernel_rfl, by kernel_rfl, by kernel_rfl, by kernel_rfl, by kernel_rfl, by kernel_rfl, by kernel_rfl, by kernel_rfl, by kernel_rfl, trivial⟩)
end Go.Proofs.Vt
