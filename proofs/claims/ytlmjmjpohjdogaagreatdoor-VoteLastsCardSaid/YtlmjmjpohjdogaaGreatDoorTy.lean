/- A part of the proofs of the Vote laws: the program's types and methods, printed by a program of the prover's. -/
import Derived.Test.YtlmjmjpohjdogaaGreatDoorRxC
import Derived.Test.YtlmjmjpohjdogaaGreatDoorProg
import Derived.KernelRfl
set_option linter.unusedVariables false
set_option linter.unusedSimpArgs false
/- PRINTED by gen.py: types and methods. -/
namespace Go.Proofs.Vt
open Go Go.Rx Go.Proofs
def ti1 : TI := ⟨Kd.func, 1, 8, V.nilFunc⟩
def ti2 : TI := ⟨(Kd.int .i64), 1, 8, (V.int .i64 0)⟩
def ti3 : TI := ⟨(Kd.int .i64), 1, 8, (V.int .i64 0)⟩
def ti4 : TI := ⟨Kd.bool, 1, 1, (V.bool false)⟩
def ti5 : TI := ⟨(Kd.int .u8), 1, 1, (V.int .u8 0)⟩
def ti6 : TI := ⟨(Kd.int .u8), 1, 1, (V.int .u8 0)⟩
def ti7 : TI := ⟨(Kd.struct [(0, 2), (1, 3), (2, 4), (3, 6)]), 4, 24, (V.agg [(V.int .i64 0), (V.int .i64 0), (V.bool false), (V.int .u8 0)])⟩
def ti8 : TI := ⟨(Kd.struct [(0, 2), (1, 3), (2, 4), (3, 6)]), 4, 24, (V.agg [(V.int .i64 0), (V.int .i64 0), (V.bool false), (V.int .u8 0)])⟩
def ti9 : TI := ⟨Kd.str, 1, 16, (V.str [])⟩
def ti10 : TI := ⟨Kd.str, 1, 16, (V.str [])⟩
def ti11 : TI := ⟨Kd.str, 1, 16, (V.str [])⟩
def ti12 : TI := ⟨(Kd.int .u64), 1, 8, (V.int .u64 0)⟩
def ti13 : TI := ⟨(Kd.struct [(0, 9), (1, 12)]), 2, 24, (V.agg [(V.str []), (V.int .u64 0)])⟩
def ti14 : TI := ⟨(Kd.struct [(0, 9), (1, 12)]), 2, 24, (V.agg [(V.str []), (V.int .u64 0)])⟩
def ti15 : TI := ⟨(Kd.ptr 220), 1, 8, (V.ptr none)⟩
def ti16 : TI := ⟨(Kd.ptr 223), 1, 8, (V.ptr none)⟩
def ti17 : TI := ⟨(Kd.ptr 231), 1, 8, (V.ptr none)⟩
def ti18 : TI := ⟨(Kd.struct [(0, 17)]), 1, 8, (V.agg [(V.ptr none)])⟩
def ti19 : TI := ⟨(Kd.struct [(0, 17)]), 1, 8, (V.agg [(V.ptr none)])⟩
def ti20 : TI := ⟨(Kd.iface true), 1, 16, V.nilIface⟩
def ti21 : TI := ⟨(Kd.int .i32), 1, 4, (V.int .i32 0)⟩
def ti22 : TI := ⟨(Kd.slice 31), 1, 24, (V.slice none 0 0 true)⟩
def ti23 : TI := ⟨(Kd.ptr 69), 1, 8, (V.ptr none)⟩
def ti24 : TI := ⟨(Kd.int .i64), 1, 8, (V.int .i64 0)⟩
def ti26 : TI := ⟨Kd.func, 1, 8, V.nilFunc⟩
def ti27 : TI := ⟨(Kd.ptr 87), 1, 8, (V.ptr none)⟩
def ti28 : TI := ⟨Kd.func, 1, 8, V.nilFunc⟩
def ti29 : TI := ⟨Kd.func, 1, 8, V.nilFunc⟩
def ti30 : TI := ⟨(Kd.arr 9 3), 9, 72, (V.agg [(V.int .i64 0), (V.int .i64 0), (V.int .i64 0), (V.int .i64 0), (V.int .i64 0), (V.int .i64 0), (V.int .i64 0), (V.int .i64 0), (V.int .i64 0)])⟩
def ti31 : TI := ⟨(Kd.arr 3 3), 3, 24, (V.agg [(V.int .i64 0), (V.int .i64 0), (V.int .i64 0)])⟩
def ti32 : TI := ⟨Kd.func, 1, 8, V.nilFunc⟩
def ti34 : TI := ⟨Kd.func, 1, 8, V.nilFunc⟩
def ti35 : TI := ⟨(Kd.slice 3), 1, 24, (V.slice none 0 0 true)⟩
def ti36 : TI := ⟨(Kd.struct [(0, 3), (1, 3), (2, 35)]), 3, 40, (V.agg [(V.int .i64 0), (V.int .i64 0), (V.slice none 0 0 true)])⟩
def ti37 : TI := ⟨(Kd.struct [(0, 3), (1, 3), (2, 35)]), 3, 40, (V.agg [(V.int .i64 0), (V.int .i64 0), (V.slice none 0 0 true)])⟩
def ti38 : TI := ⟨Kd.func, 1, 8, V.nilFunc⟩
def ti39 : TI := ⟨(Kd.slice 43), 1, 24, (V.slice none 0 0 true)⟩
def ti41 : TI := ⟨Kd.func, 1, 8, V.nilFunc⟩
def ti42 : TI := ⟨(Kd.struct [(0, 3), (1, 37)]), 4, 48, (V.agg [(V.int .i64 0), (V.int .i64 0), (V.int .i64 0), (V.slice none 0 0 true)])⟩
def ti43 : TI := ⟨(Kd.struct [(0, 3), (1, 37)]), 4, 48, (V.agg [(V.int .i64 0), (V.int .i64 0), (V.int .i64 0), (V.slice none 0 0 true)])⟩
def ti44 : TI := ⟨Kd.func, 1, 8, V.nilFunc⟩
def ti45 : TI := ⟨Kd.func, 1, 8, V.nilFunc⟩
def ti46 : TI := ⟨(Kd.slice 47), 1, 24, (V.slice none 0 0 true)⟩
def ti47 : TI := ⟨(Kd.arr 2 3), 2, 16, (V.agg [(V.int .i64 0), (V.int .i64 0)])⟩
def ti48 : TI := ⟨Kd.func, 1, 8, V.nilFunc⟩
def ti49 : TI := ⟨Kd.func, 1, 8, V.nilFunc⟩
def ti50 : TI := ⟨Kd.func, 1, 8, V.nilFunc⟩
def ti51 : TI := ⟨Kd.func, 1, 8, V.nilFunc⟩
def ti52 : TI := ⟨(Kd.slice 59), 1, 24, (V.slice none 0 0 true)⟩
def ti53 : TI := ⟨(Kd.ptr 58), 1, 8, (V.ptr none)⟩
def ti54 : TI := ⟨(Kd.ptr 99), 1, 8, (V.ptr none)⟩
def ti55 : TI := ⟨Kd.func, 1, 8, V.nilFunc⟩
def ti56 : TI := ⟨(Kd.ptr 108), 1, 8, (V.ptr none)⟩
def ti57 : TI := ⟨(Kd.struct [(0, 27), (1, 23), (2, 54), (3, 56)]), 4, 32, (V.agg [(V.ptr none), (V.ptr none), (V.ptr none), (V.ptr none)])⟩
def ti58 : TI := ⟨(Kd.struct [(0, 27), (1, 23), (2, 54), (3, 56)]), 4, 32, (V.agg [(V.ptr none), (V.ptr none), (V.ptr none), (V.ptr none)])⟩
def ti59 : TI := ⟨(Kd.slice 5), 1, 24, (V.slice none 0 0 true)⟩
def ti61 : TI := ⟨Kd.func, 1, 8, V.nilFunc⟩
def ti62 : TI := ⟨Kd.func, 1, 8, V.nilFunc⟩
def ti63 : TI := ⟨Kd.func, 1, 8, V.nilFunc⟩
def ti64 : TI := ⟨Kd.func, 1, 8, V.nilFunc⟩
def ti65 : TI := ⟨(Kd.slice 52), 1, 24, (V.slice none 0 0 true)⟩
def ti66 : TI := ⟨(Kd.ptr 116), 1, 8, (V.ptr none)⟩
def ti67 : TI := ⟨(Kd.map 3 43), 1, 8, (V.map none)⟩
def ti68 : TI := ⟨(Kd.struct [(0, 66), (1, 3), (2, 3), (3, 67)]), 4, 32, (V.agg [(V.ptr none), (V.int .i64 0), (V.int .i64 0), (V.map none)])⟩
def ti69 : TI := ⟨(Kd.struct [(0, 66), (1, 3), (2, 3), (3, 67)]), 4, 32, (V.agg [(V.ptr none), (V.int .i64 0), (V.int .i64 0), (V.map none)])⟩
def ti70 : TI := ⟨(Kd.slice 75), 1, 24, (V.slice none 0 0 true)⟩
def ti71 : TI := ⟨(Kd.arr 12 3), 12, 96, (V.agg [(V.int .i64 0), (V.int .i64 0), (V.int .i64 0), (V.int .i64 0), (V.int .i64 0), (V.int .i64 0), (V.int .i64 0), (V.int .i64 0), (V.int .i64 0), (V.int .i64 0), (V.int .i64 0), (V.int .i64 0)])⟩
def ti72 : TI := ⟨(Kd.struct [(0, 3), (1, 71)]), 13, 104, (V.agg [(V.int .i64 0), (V.int .i64 0), (V.int .i64 0), (V.int .i64 0), (V.int .i64 0), (V.int .i64 0), (V.int .i64 0), (V.int .i64 0), (V.int .i64 0), (V.int .i64 0), (V.int .i64 0), (V.int .i64 0), (V.int .i64 0)])⟩
def ti73 : TI := ⟨(Kd.struct [(0, 3), (1, 71)]), 13, 104, (V.agg [(V.int .i64 0), (V.int .i64 0), (V.int .i64 0), (V.int .i64 0), (V.int .i64 0), (V.int .i64 0), (V.int .i64 0), (V.int .i64 0), (V.int .i64 0), (V.int .i64 0), (V.int .i64 0), (V.int .i64 0), (V.int .i64 0)])⟩
def ti74 : TI := ⟨(Kd.struct [(0, 3), (1, 3), (2, 3), (3, 37)]), 6, 64, (V.agg [(V.int .i64 0), (V.int .i64 0), (V.int .i64 0), (V.int .i64 0), (V.int .i64 0), (V.slice none 0 0 true)])⟩
def ti75 : TI := ⟨(Kd.struct [(0, 3), (1, 3), (2, 3), (3, 37)]), 6, 64, (V.agg [(V.int .i64 0), (V.int .i64 0), (V.int .i64 0), (V.int .i64 0), (V.int .i64 0), (V.slice none 0 0 true)])⟩
def ti76 : TI := ⟨Kd.func, 1, 8, V.nilFunc⟩
def ti77 : TI := ⟨Kd.func, 1, 8, V.nilFunc⟩
def ti79 : TI := ⟨Kd.func, 1, 8, V.nilFunc⟩
def ti80 : TI := ⟨Kd.func, 1, 8, V.nilFunc⟩
def ti81 : TI := ⟨Kd.func, 1, 8, V.nilFunc⟩
def ti82 : TI := ⟨(Kd.iface false), 1, 16, V.nilIface⟩
def ti83 : TI := ⟨(Kd.iface false), 1, 16, V.nilIface⟩
def ti84 : TI := ⟨Kd.func, 1, 8, V.nilFunc⟩
def ti85 : TI := ⟨Kd.func, 1, 8, V.nilFunc⟩
def ti86 : TI := ⟨(Kd.struct [(0, 59), (1, 3), (2, 4), (3, 85), (4, 52)]), 5, 72, (V.agg [(V.slice none 0 0 true), (V.int .i64 0), (V.bool false), V.nilFunc, (V.slice none 0 0 true)])⟩
def ti87 : TI := ⟨(Kd.struct [(0, 59), (1, 3), (2, 4), (3, 85), (4, 52)]), 5, 72, (V.agg [(V.slice none 0 0 true), (V.int .i64 0), (V.bool false), V.nilFunc, (V.slice none 0 0 true)])⟩
def ti88 : TI := ⟨Kd.func, 1, 8, V.nilFunc⟩
def ti89 : TI := ⟨Kd.func, 1, 8, V.nilFunc⟩
def ti90 : TI := ⟨Kd.func, 1, 8, V.nilFunc⟩
def ti91 : TI := ⟨Kd.func, 1, 8, V.nilFunc⟩
def ti92 : TI := ⟨(Kd.struct [(0, 3), (1, 37)]), 4, 48, (V.agg [(V.int .i64 0), (V.int .i64 0), (V.int .i64 0), (V.slice none 0 0 true)])⟩
def ti93 : TI := ⟨(Kd.int .i64), 1, 8, (V.int .i64 0)⟩
def ti94 : TI := ⟨Kd.func, 1, 8, V.nilFunc⟩
def ti95 : TI := ⟨Kd.func, 1, 8, V.nilFunc⟩
def ti96 : TI := ⟨(Kd.int .i64), 1, 8, (V.int .i64 0)⟩
def ti97 : TI := ⟨Kd.func, 1, 8, V.nilFunc⟩
def ti98 : TI := ⟨(Kd.struct [(0, 59), (1, 3), (2, 4), (3, 3), (4, 52)]), 5, 72, (V.agg [(V.slice none 0 0 true), (V.int .i64 0), (V.bool false), (V.int .i64 0), (V.slice none 0 0 true)])⟩
def ti99 : TI := ⟨(Kd.struct [(0, 59), (1, 3), (2, 4), (3, 3), (4, 52)]), 5, 72, (V.agg [(V.slice none 0 0 true), (V.int .i64 0), (V.bool false), (V.int .i64 0), (V.slice none 0 0 true)])⟩
def ti100 : TI := ⟨(Kd.arr 32 5), 32, 32, (V.agg [(V.int .u8 0), (V.int .u8 0), (V.int .u8 0), (V.int .u8 0), (V.int .u8 0), (V.int .u8 0), (V.int .u8 0), (V.int .u8 0), (V.int .u8 0), (V.int .u8 0), (V.int .u8 0), (V.int .u8 0), (V.int .u8 0), (V.int .u8 0), (V.int .u8 0), (V.int .u8 0), (V.int .u8 0), (V.int .u8 0), (V.int .u8 0), (V.int .u8 0), (V.int .u8 0), (V.int .u8 0), (V.int .u8 0), (V.int .u8 0), (V.int .u8 0), (V.int .u8 0), (V.int .u8 0), (V.int .u8 0), (V.int .u8 0), (V.int .u8 0), (V.int .u8 0), (V.int .u8 0)])⟩
def ti101 : TI := ⟨Kd.func, 1, 8, V.nilFunc⟩
def ti102 : TI := ⟨Kd.func, 1, 8, V.nilFunc⟩
def ti104 : TI := ⟨Kd.func, 1, 8, V.nilFunc⟩
def ti105 : TI := ⟨Kd.func, 1, 8, V.nilFunc⟩
def ti106 : TI := ⟨(Kd.ptr 110), 1, 8, (V.ptr none)⟩
def ti107 : TI := ⟨(Kd.struct [(0, 106), (1, 3), (2, 3), (3, 39)]), 4, 48, (V.agg [(V.ptr none), (V.int .i64 0), (V.int .i64 0), (V.slice none 0 0 true)])⟩
def ti108 : TI := ⟨(Kd.struct [(0, 106), (1, 3), (2, 3), (3, 39)]), 4, 48, (V.agg [(V.ptr none), (V.int .i64 0), (V.int .i64 0), (V.slice none 0 0 true)])⟩
def ti109 : TI := ⟨(Kd.struct [(0, 54), (1, 52), (2, 4)]), 3, 40, (V.agg [(V.ptr none), (V.slice none 0 0 true), (V.bool false)])⟩
def ti110 : TI := ⟨(Kd.struct [(0, 54), (1, 52), (2, 4)]), 3, 40, (V.agg [(V.ptr none), (V.slice none 0 0 true), (V.bool false)])⟩
def ti111 : TI := ⟨Kd.func, 1, 8, V.nilFunc⟩
def ti112 : TI := ⟨Kd.func, 1, 8, V.nilFunc⟩
def ti114 : TI := ⟨Kd.func, 1, 8, V.nilFunc⟩
def ti115 : TI := ⟨(Kd.struct [(0, 27), (1, 52), (2, 4)]), 3, 40, (V.agg [(V.ptr none), (V.slice none 0 0 true), (V.bool false)])⟩
def ti116 : TI := ⟨(Kd.struct [(0, 27), (1, 52), (2, 4)]), 3, 40, (V.agg [(V.ptr none), (V.slice none 0 0 true), (V.bool false)])⟩
def ti117 : TI := ⟨Kd.func, 1, 8, V.nilFunc⟩
def ti118 : TI := ⟨Kd.func, 1, 8, V.nilFunc⟩
def ti119 : TI := ⟨Kd.func, 1, 8, V.nilFunc⟩
def ti120 : TI := ⟨(Kd.ptr 154), 1, 8, (V.ptr none)⟩
def ti121 : TI := ⟨Kd.func, 1, 8, V.nilFunc⟩
def ti122 : TI := ⟨Kd.func, 1, 8, V.nilFunc⟩
def ti124 : TI := ⟨Kd.func, 1, 8, V.nilFunc⟩
def ti125 : TI := ⟨Kd.func, 1, 8, V.nilFunc⟩
def ti126 : TI := ⟨Kd.func, 1, 8, V.nilFunc⟩
def ti127 : TI := ⟨Kd.func, 1, 8, V.nilFunc⟩
def ti128 : TI := ⟨Kd.func, 1, 8, V.nilFunc⟩
def ti129 : TI := ⟨Kd.func, 1, 8, V.nilFunc⟩
def ti130 : TI := ⟨Kd.func, 1, 8, V.nilFunc⟩
def ti131 : TI := ⟨Kd.func, 1, 8, V.nilFunc⟩
def ti132 : TI := ⟨Kd.func, 1, 8, V.nilFunc⟩
def ti134 : TI := ⟨Kd.func, 1, 8, V.nilFunc⟩
def ti135 : TI := ⟨Kd.func, 1, 8, V.nilFunc⟩
def ti136 : TI := ⟨Kd.func, 1, 8, V.nilFunc⟩
def ti137 : TI := ⟨(Kd.ptr 163), 1, 8, (V.ptr none)⟩
def ti138 : TI := ⟨Kd.func, 1, 8, V.nilFunc⟩
def ti139 : TI := ⟨Kd.func, 1, 8, V.nilFunc⟩
def ti140 : TI := ⟨Kd.func, 1, 8, V.nilFunc⟩
def ti141 : TI := ⟨Kd.func, 1, 8, V.nilFunc⟩
def ti142 : TI := ⟨Kd.func, 1, 8, V.nilFunc⟩
def ti143 : TI := ⟨Kd.func, 1, 8, V.nilFunc⟩
def ti144 : TI := ⟨Kd.func, 1, 8, V.nilFunc⟩
def ti145 : TI := ⟨(Kd.int .u32), 1, 4, (V.int .u32 0)⟩
def ti146 : TI := ⟨(Kd.arr 8 145), 8, 32, (V.agg [(V.int .u32 0), (V.int .u32 0), (V.int .u32 0), (V.int .u32 0), (V.int .u32 0), (V.int .u32 0), (V.int .u32 0), (V.int .u32 0)])⟩
def ti147 : TI := ⟨Kd.func, 1, 8, V.nilFunc⟩
def ti148 : TI := ⟨Kd.func, 1, 8, V.nilFunc⟩
def ti150 : TI := ⟨Kd.func, 1, 8, V.nilFunc⟩
def ti151 : TI := ⟨Kd.func, 1, 8, V.nilFunc⟩
def ti152 : TI := ⟨Kd.func, 1, 8, V.nilFunc⟩
def ti153 : TI := ⟨(Kd.struct [(0, 59), (1, 24)]), 2, 32, (V.agg [(V.slice none 0 0 true), (V.int .i64 0)])⟩
def ti154 : TI := ⟨(Kd.struct [(0, 59), (1, 24)]), 2, 32, (V.agg [(V.slice none 0 0 true), (V.int .i64 0)])⟩
def ti155 : TI := ⟨Kd.func, 1, 8, V.nilFunc⟩
def ti156 : TI := ⟨(Kd.int .u64), 1, 8, (V.int .u64 0)⟩
def ti157 : TI := ⟨(Kd.int .u64), 1, 8, (V.int .u64 0)⟩
def ti158 : TI := ⟨Kd.func, 1, 8, V.nilFunc⟩
def ti159 : TI := ⟨Kd.func, 1, 8, V.nilFunc⟩
def ti160 : TI := ⟨Kd.func, 1, 8, V.nilFunc⟩
def ti161 : TI := ⟨Kd.func, 1, 8, V.nilFunc⟩
def ti162 : TI := ⟨Kd.func, 1, 8, V.nilFunc⟩
def ti163 : TI := ⟨(Kd.struct [(0, 59), (1, 24)]), 2, 32, (V.agg [(V.slice none 0 0 true), (V.int .i64 0)])⟩
def ti164 : TI := ⟨Kd.func, 1, 8, V.nilFunc⟩
def ti165 : TI := ⟨Kd.func, 1, 8, V.nilFunc⟩
def ti166 : TI := ⟨(Kd.arr 64 145), 64, 256, (V.agg [(V.int .u32 0), (V.int .u32 0), (V.int .u32 0), (V.int .u32 0), (V.int .u32 0), (V.int .u32 0), (V.int .u32 0), (V.int .u32 0), (V.int .u32 0), (V.int .u32 0), (V.int .u32 0), (V.int .u32 0), (V.int .u32 0), (V.int .u32 0), (V.int .u32 0), (V.int .u32 0), (V.int .u32 0), (V.int .u32 0), (V.int .u32 0), (V.int .u32 0), (V.int .u32 0), (V.int .u32 0), (V.int .u32 0), (V.int .u32 0), (V.int .u32 0), (V.int .u32 0), (V.int .u32 0), (V.int .u32 0), (V.int .u32 0), (V.int .u32 0), (V.int .u32 0), (V.int .u32 0), (V.int .u32 0), (V.int .u32 0), (V.int .u32 0), (V.int .u32 0), (V.int .u32 0), (V.int .u32 0), (V.int .u32 0), (V.int .u32 0), (V.int .u32 0), (V.int .u32 0), (V.int .u32 0), (V.int .u32 0), (V.int .u32 0), (V.int .u32 0), (V.int .u32 0), (V.int .u32 0), (V.int .u32 0), (V.int .u32 0), (V.int .u32 0), (V.int .u32 0), (V.int .u32 0), (V.int .u32 0), (V.int .u32 0), (V.int .u32 0), (V.int .u32 0), (V.int .u32 0), (V.int .u32 0), (V.int .u32 0), (V.int .u32 0), (V.int .u32 0), (V.int .u32 0), (V.int .u32 0)])⟩
def ti167 : TI := ⟨Kd.func, 1, 8, V.nilFunc⟩
def ti168 : TI := ⟨Kd.func, 1, 8, V.nilFunc⟩
def ti169 : TI := ⟨Kd.func, 1, 8, V.nilFunc⟩
def ti170 : TI := ⟨(Kd.ptr 179), 1, 8, (V.ptr none)⟩
def ti171 : TI := ⟨Kd.func, 1, 8, V.nilFunc⟩
def ti172 : TI := ⟨Kd.func, 1, 8, V.nilFunc⟩
def ti173 : TI := ⟨Kd.func, 1, 8, V.nilFunc⟩
def ti174 : TI := ⟨Kd.func, 1, 8, V.nilFunc⟩
def ti175 : TI := ⟨Kd.func, 1, 8, V.nilFunc⟩
def ti176 : TI := ⟨Kd.func, 1, 8, V.nilFunc⟩
def ti177 : TI := ⟨Kd.func, 1, 8, V.nilFunc⟩
def ti178 : TI := ⟨(Kd.struct [(0, 59), (1, 24)]), 2, 32, (V.agg [(V.slice none 0 0 true), (V.int .i64 0)])⟩
def ti179 : TI := ⟨(Kd.struct [(0, 59), (1, 24)]), 2, 32, (V.agg [(V.slice none 0 0 true), (V.int .i64 0)])⟩
def ti180 : TI := ⟨Kd.func, 1, 8, V.nilFunc⟩
def ti181 : TI := ⟨Kd.func, 1, 8, V.nilFunc⟩
def ti182 : TI := ⟨Kd.func, 1, 8, V.nilFunc⟩
def ti183 : TI := ⟨(Kd.ptr 205), 1, 8, (V.ptr none)⟩
def ti184 : TI := ⟨Kd.func, 1, 8, V.nilFunc⟩
def ti185 : TI := ⟨Kd.func, 1, 8, V.nilFunc⟩
def ti186 : TI := ⟨Kd.func, 1, 8, V.nilFunc⟩
def ti187 : TI := ⟨(Kd.slice 24), 1, 24, (V.slice none 0 0 true)⟩
def ti188 : TI := ⟨Kd.func, 1, 8, V.nilFunc⟩
def ti189 : TI := ⟨(Kd.int .i64), 1, 8, (V.int .i64 0)⟩
def ti191 : TI := ⟨Kd.func, 1, 8, V.nilFunc⟩
def ti192 : TI := ⟨Kd.func, 1, 8, V.nilFunc⟩
def ti193 : TI := ⟨Kd.func, 1, 8, V.nilFunc⟩
def ti194 : TI := ⟨Kd.func, 1, 8, V.nilFunc⟩
def ti196 : TI := ⟨Kd.func, 1, 8, V.nilFunc⟩
def ti197 : TI := ⟨Kd.func, 1, 8, V.nilFunc⟩
def ti198 : TI := ⟨Kd.func, 1, 8, V.nilFunc⟩
def ti199 : TI := ⟨Kd.func, 1, 8, V.nilFunc⟩
def ti200 : TI := ⟨Kd.func, 1, 8, V.nilFunc⟩
def ti201 : TI := ⟨Kd.func, 1, 8, V.nilFunc⟩
def ti202 : TI := ⟨Kd.func, 1, 8, V.nilFunc⟩
def ti203 : TI := ⟨Kd.func, 1, 8, V.nilFunc⟩
def ti204 : TI := ⟨(Kd.struct [(0, 146), (8, 59), (9, 3)]), 10, 64, (V.agg [(V.int .u32 0), (V.int .u32 0), (V.int .u32 0), (V.int .u32 0), (V.int .u32 0), (V.int .u32 0), (V.int .u32 0), (V.int .u32 0), (V.slice none 0 0 true), (V.int .i64 0)])⟩
def ti205 : TI := ⟨(Kd.struct [(0, 146), (8, 59), (9, 3)]), 10, 64, (V.agg [(V.int .u32 0), (V.int .u32 0), (V.int .u32 0), (V.int .u32 0), (V.int .u32 0), (V.int .u32 0), (V.int .u32 0), (V.int .u32 0), (V.slice none 0 0 true), (V.int .i64 0)])⟩
def ti206 : TI := ⟨(Kd.int .u64), 1, 8, (V.int .u64 0)⟩
def ti207 : TI := ⟨Kd.func, 1, 8, V.nilFunc⟩
def ti208 : TI := ⟨Kd.func, 1, 8, V.nilFunc⟩
def ti209 : TI := ⟨Kd.func, 1, 8, V.nilFunc⟩
def ti210 : TI := ⟨(Kd.ptr 3), 1, 8, (V.ptr none)⟩
def ti211 : TI := ⟨Kd.func, 1, 8, V.nilFunc⟩
def ti212 : TI := ⟨Kd.func, 1, 8, V.nilFunc⟩
def ti213 : TI := ⟨Kd.func, 1, 8, V.nilFunc⟩
def ti214 : TI := ⟨(Kd.ptr 206), 1, 8, (V.ptr none)⟩
def ti216 : TI := ⟨Kd.func, 1, 8, V.nilFunc⟩
def ti217 : TI := ⟨Kd.func, 1, 8, V.nilFunc⟩
def ti218 : TI := ⟨Kd.func, 1, 8, V.nilFunc⟩
def ti219 : TI := ⟨(Kd.struct [(0, 17), (1, 17), (2, 17), (3, 9)]), 4, 40, (V.agg [(V.ptr none), (V.ptr none), (V.ptr none), (V.str [])])⟩
def ti220 : TI := ⟨(Kd.struct [(0, 17), (1, 17), (2, 17), (3, 9)]), 4, 40, (V.agg [(V.ptr none), (V.ptr none), (V.ptr none), (V.str [])])⟩
def ti221 : TI := ⟨(Kd.arr 0 16), 0, 0, (V.agg [])⟩
def ti222 : TI := ⟨(Kd.struct [(0, 221)]), 0, 0, (V.agg [])⟩
def ti223 : TI := ⟨(Kd.struct [(0, 221)]), 0, 0, (V.agg [])⟩
def ti224 : TI := ⟨(Kd.int .u8), 1, 1, (V.int .u8 0)⟩
def ti225 : TI := ⟨(Kd.int .u8), 1, 1, (V.int .u8 0)⟩
def ti226 : TI := ⟨Kd.func, 1, 8, V.nilFunc⟩
def ti227 : TI := ⟨(Kd.ptr 5), 1, 8, (V.ptr none)⟩
def ti228 : TI := ⟨(Kd.int .i32), 1, 4, (V.int .i32 0)⟩
def ti229 : TI := ⟨(Kd.int .i32), 1, 4, (V.int .i32 0)⟩
def ti230 : TI := ⟨(Kd.struct [(0, 12), (1, 12), (2, 145), (3, 224), (4, 5), (5, 5), (6, 225), (7, 226), (8, 227), (9, 228), (10, 229)]), 11, 48, (V.agg [(V.int .u64 0), (V.int .u64 0), (V.int .u32 0), (V.int .u8 0), (V.int .u8 0), (V.int .u8 0), (V.int .u8 0), V.nilFunc, (V.ptr none), (V.int .i32 0), (V.int .i32 0)])⟩
def ti231 : TI := ⟨(Kd.struct [(0, 12), (1, 12), (2, 145), (3, 224), (4, 5), (5, 5), (6, 225), (7, 226), (8, 227), (9, 228), (10, 229)]), 11, 48, (V.agg [(V.int .u64 0), (V.int .u64 0), (V.int .u32 0), (V.int .u8 0), (V.int .u8 0), (V.int .u8 0), (V.int .u8 0), V.nilFunc, (V.ptr none), (V.int .i32 0), (V.int .i32 0)])⟩
def tyL : List (Option TI) := [none, some ti1, some ti2, some ti3, some ti4, some ti5, some ti6, some ti7, some ti8, some ti9, some ti10, some ti11, some ti12, some ti13, some ti14, some ti15, some ti16, some ti17, some ti18, some ti19, some ti20, some ti21, some ti22, some ti23, some ti24, none, some ti26, some ti27, some ti28, some ti29, some ti30, some ti31, some ti32, none, some ti34, some ti35, some ti36, some ti37, some ti38, some ti39, none, some ti41, some ti42, some ti43, some ti44, some ti45, some ti46, some ti47, some ti48, some ti49, some ti50, some ti51, some ti52, some ti53, some ti54, some ti55, some ti56, some ti57, some ti58, some ti59, none, some ti61, some ti62, some ti63, some ti64, some ti65, some ti66, some ti67, some ti68, some ti69, some ti70, some ti71, some ti72, some ti73, some ti74, some ti75, some ti76, some ti77, none, some ti79, some ti80, some ti81, some ti82, some ti83, some ti84, some ti85, some ti86, some ti87, some ti88, some ti89, some ti90, some ti91, some ti92, some ti93, some ti94, some ti95, some ti96, some ti97, some ti98, some ti99, some ti100, some ti101, some ti102, none, some ti104, some ti105, some ti106, some ti107, some ti108, some ti109, some ti110, some ti111, some ti112, none, some ti114, some ti115, some ti116, some ti117, some ti118, some ti119, some ti120, some ti121, some ti122, none, some ti124, some ti125, some ti126, some ti127, some ti128, some ti129, some ti130, some ti131, some ti132, none, some ti134, some ti135, some ti136, some ti137, some ti138, some ti139, some ti140, some ti141, some ti142, some ti143, some ti144, some ti145, some ti146, some ti147, some ti148, none, some ti150, some ti151, some ti152, some ti153, some ti154, some ti155, some ti156, some ti157, some ti158, some ti159, some ti160, some ti161, some ti162, some ti163, some ti164, some ti165, some ti166, some ti167, some ti168, some ti169, some ti170, some ti171, some ti172, some ti173, some ti174, some ti175, some ti176, some ti177, some ti178, some ti179, some ti180, some ti181, some ti182, some ti183, some ti184, some ti185, some ti186, some ti187, some ti188, some ti189, none, some ti191, some ti192, some ti193, some ti194, none, some ti196, some ti197, some ti198, some ti199, some ti200, some ti201, some ti202, some ti203, some ti204, some ti205, some ti206, some ti207, some ti208, some ti209, some ti210, some ti211, some ti212, some ti213, some ti214, none, some ti216, some ti217, some ti218, some ti219, some ti220, some ti221, some ti222, some ti223, some ti224, some ti225, some ti226, some ti227, some ti228, some ti229, some ti230, some ti231, none]
def ty : TypeId → Option TI := tabT tyL
theorem ti1_e : tiOf Tryz.prog 1 = some ti1 := by kernel_rfl
theorem ti2_e : tiOf Tryz.prog 2 = some ti2 := by kernel_rfl
theorem ti3_e : tiOf Tryz.prog 3 = some ti3 := by kernel_rfl
theorem ti4_e : tiOf Tryz.prog 4 = some ti4 := by kernel_rfl
theorem ti5_e : tiOf Tryz.prog 5 = some ti5 := by kernel_rfl
theorem ti6_e : tiOf Tryz.prog 6 = some ti6 := by kernel_rfl
theorem ti7_e : tiOf Tryz.prog 7 = some ti7 := by kernel_rfl
theorem ti8_e : tiOf Tryz.prog 8 = some ti8 := by kernel_rfl
theorem ti9_e : tiOf Tryz.prog 9 = some ti9 := by kernel_rfl
theorem ti10_e : tiOf Tryz.prog 10 = some ti10 := by kernel_rfl
theorem ti11_e : tiOf Tryz.prog 11 = some ti11 := by kernel_rfl
theorem ti12_e : tiOf Tryz.prog 12 = some ti12 := by kernel_rfl
theorem ti13_e : tiOf Tryz.prog 13 = some ti13 := by kernel_rfl
theorem ti14_e : tiOf Tryz.prog 14 = some ti14 := by kernel_rfl
theorem ti15_e : tiOf Tryz.prog 15 = some ti15 := by kernel_rfl
theorem ti16_e : tiOf Tryz.prog 16 = some ti16 := by kernel_rfl
theorem ti17_e : tiOf Tryz.prog 17 = some ti17 := by kernel_rfl
theorem ti18_e : tiOf Tryz.prog 18 = some ti18 := by kernel_rfl
theorem ti19_e : tiOf Tryz.prog 19 = some ti19 := by kernel_rfl
theorem ti20_e : tiOf Tryz.prog 20 = some ti20 := by kernel_rfl
theorem ti21_e : tiOf Tryz.prog 21 = some ti21 := by kernel_rfl
theorem ti22_e : tiOf Tryz.prog 22 = some ti22 := by kernel_rfl
theorem ti23_e : tiOf Tryz.prog 23 = some ti23 := by kernel_rfl
theorem ti24_e : tiOf Tryz.prog 24 = some ti24 := by kernel_rfl
theorem ti26_e : tiOf Tryz.prog 26 = some ti26 := by kernel_rfl
theorem ti27_e : tiOf Tryz.prog 27 = some ti27 := by kernel_rfl
theorem ti28_e : tiOf Tryz.prog 28 = some ti28 := by kernel_rfl
theorem ti29_e : tiOf Tryz.prog 29 = some ti29 := by kernel_rfl
theorem ti30_e : tiOf Tryz.prog 30 = some ti30 := by kernel_rfl
theorem ti31_e : tiOf Tryz.prog 31 = some ti31 := by kernel_rfl
theorem ti32_e : tiOf Tryz.prog 32 = some ti32 := by kernel_rfl
theorem ti34_e : tiOf Tryz.prog 34 = some ti34 := by kernel_rfl
theorem ti35_e : tiOf Tryz.prog 35 = some ti35 := by kernel_rfl
theorem ti36_e : tiOf Tryz.prog 36 = some ti36 := by kernel_rfl
theorem ti37_e : tiOf Tryz.prog 37 = some ti37 := by kernel_rfl
theorem ti38_e : tiOf Tryz.prog 38 = some ti38 := by kernel_rfl
theorem ti39_e : tiOf Tryz.prog 39 = some ti39 := by kernel_rfl
theorem ti41_e : tiOf Tryz.prog 41 = some ti41 := by kernel_rfl
theorem ti42_e : tiOf Tryz.prog 42 = some ti42 := by kernel_rfl
theorem ti43_e : tiOf Tryz.prog 43 = some ti43 := by kernel_rfl
theorem ti44_e : tiOf Tryz.prog 44 = some ti44 := by kernel_rfl
theorem ti45_e : tiOf Tryz.prog 45 = some ti45 := by kernel_rfl
theorem ti46_e : tiOf Tryz.prog 46 = some ti46 := by kernel_rfl
theorem ti47_e : tiOf Tryz.prog 47 = some ti47 := by kernel_rfl
theorem ti48_e : tiOf Tryz.prog 48 = some ti48 := by kernel_rfl
theorem ti49_e : tiOf Tryz.prog 49 = some ti49 := by kernel_rfl
theorem ti50_e : tiOf Tryz.prog 50 = some ti50 := by kernel_rfl
theorem ti51_e : tiOf Tryz.prog 51 = some ti51 := by kernel_rfl
theorem ti52_e : tiOf Tryz.prog 52 = some ti52 := by kernel_rfl
theorem ti53_e : tiOf Tryz.prog 53 = some ti53 := by kernel_rfl
theorem ti54_e : tiOf Tryz.prog 54 = some ti54 := by kernel_rfl
theorem ti55_e : tiOf Tryz.prog 55 = some ti55 := by kernel_rfl
theorem ti56_e : tiOf Tryz.prog 56 = some ti56 := by kernel_rfl
theorem ti57_e : tiOf Tryz.prog 57 = some ti57 := by kernel_rfl
theorem ti58_e : tiOf Tryz.prog 58 = some ti58 := by kernel_rfl
theorem ti59_e : tiOf Tryz.prog 59 = some ti59 := by kernel_rfl
theorem ti61_e : tiOf Tryz.prog 61 = some ti61 := by kernel_rfl
theorem ti62_e : tiOf Tryz.prog 62 = some ti62 := by kernel_rfl
theorem ti63_e : tiOf Tryz.prog 63 = some ti63 := by kernel_rfl
theorem ti64_e : tiOf Tryz.prog 64 = some ti64 := by kernel_rfl
theorem ti65_e : tiOf Tryz.prog 65 = some ti65 := by kernel_rfl
theorem ti66_e : tiOf Tryz.prog 66 = some ti66 := by kernel_rfl
theorem ti67_e : tiOf Tryz.prog 67 = some ti67 := by kernel_rfl
theorem ti68_e : tiOf Tryz.prog 68 = some ti68 := by kernel_rfl
theorem ti69_e : tiOf Tryz.prog 69 = some ti69 := by kernel_rfl
theorem ti70_e : tiOf Tryz.prog 70 = some ti70 := by kernel_rfl
theorem ti71_e : tiOf Tryz.prog 71 = some ti71 := by kernel_rfl
theorem ti72_e : tiOf Tryz.prog 72 = some ti72 := by kernel_rfl
theorem ti73_e : tiOf Tryz.prog 73 = some ti73 := by kernel_rfl
theorem ti74_e : tiOf Tryz.prog 74 = some ti74 := by kernel_rfl
theorem ti75_e : tiOf Tryz.prog 75 = some ti75 := by kernel_rfl
theorem ti76_e : tiOf Tryz.prog 76 = some ti76 := by kernel_rfl
theorem ti77_e : tiOf Tryz.prog 77 = some ti77 := by kernel_rfl
theorem ti79_e : tiOf Tryz.prog 79 = some ti79 := by kernel_rfl
theorem ti80_e : tiOf Tryz.prog 80 = some ti80 := by kernel_rfl
theorem ti81_e : tiOf Tryz.prog 81 = some ti81 := by kernel_rfl
theorem ti82_e : tiOf Tryz.prog 82 = some ti82 := by kernel_rfl
theorem ti83_e : tiOf Tryz.prog 83 = some ti83 := by kernel_rfl
theorem ti84_e : tiOf Tryz.prog 84 = some ti84 := by kernel_rfl
theorem ti85_e : tiOf Tryz.prog 85 = some ti85 := by kernel_rfl
theorem ti86_e : tiOf Tryz.prog 86 = some ti86 := by kernel_rfl
theorem ti87_e : tiOf Tryz.prog 87 = some ti87 := by kernel_rfl
theorem ti88_e : tiOf Tryz.prog 88 = some ti88 := by kernel_rfl
theorem ti89_e : tiOf Tryz.prog 89 = some ti89 := by kernel_rfl
theorem ti90_e : tiOf Tryz.prog 90 = some ti90 := by kernel_rfl
theorem ti91_e : tiOf Tryz.prog 91 = some ti91 := by kernel_rfl
theorem ti92_e : tiOf Tryz.prog 92 = some ti92 := by kernel_rfl
theorem ti93_e : tiOf Tryz.prog 93 = some ti93 := by kernel_rfl
theorem ti94_e : tiOf Tryz.prog 94 = some ti94 := by kernel_rfl
theorem ti95_e : tiOf Tryz.prog 95 = some ti95 := by kernel_rfl
theorem ti96_e : tiOf Tryz.prog 96 = some ti96 := by kernel_rfl
theorem ti97_e : tiOf Tryz.prog 97 = some ti97 := by kernel_rfl
theorem ti98_e : tiOf Tryz.prog 98 = some ti98 := by kernel_rfl
theorem ti99_e : tiOf Tryz.prog 99 = some ti99 := by kernel_rfl
theorem ti100_e : tiOf Tryz.prog 100 = some ti100 := by kernel_rfl
theorem ti101_e : tiOf Tryz.prog 101 = some ti101 := by kernel_rfl
theorem ti102_e : tiOf Tryz.prog 102 = some ti102 := by kernel_rfl
theorem ti104_e : tiOf Tryz.prog 104 = some ti104 := by kernel_rfl
theorem ti105_e : tiOf Tryz.prog 105 = some ti105 := by kernel_rfl
theorem ti106_e : tiOf Tryz.prog 106 = some ti106 := by kernel_rfl
theorem ti107_e : tiOf Tryz.prog 107 = some ti107 := by kernel_rfl
theorem ti108_e : tiOf Tryz.prog 108 = some ti108 := by kernel_rfl
theorem ti109_e : tiOf Tryz.prog 109 = some ti109 := by kernel_rfl
theorem ti110_e : tiOf Tryz.prog 110 = some ti110 := by kernel_rfl
theorem ti111_e : tiOf Tryz.prog 111 = some ti111 := by kernel_rfl
theorem ti112_e : tiOf Tryz.prog 112 = some ti112 := by kernel_rfl
theorem ti114_e : tiOf Tryz.prog 114 = some ti114 := by kernel_rfl
theorem ti115_e : tiOf Tryz.prog 115 = some ti115 := by kernel_rfl
theorem ti116_e : tiOf Tryz.prog 116 = some ti116 := by kernel_rfl
theorem ti117_e : tiOf Tryz.prog 117 = some ti117 := by kernel_rfl
theorem ti118_e : tiOf Tryz.prog 118 = some ti118 := by kernel_rfl
theorem ti119_e : tiOf Tryz.prog 119 = some ti119 := by kernel_rfl
theorem ti120_e : tiOf Tryz.prog 120 = some ti120 := by kernel_rfl
theorem ti121_e : tiOf Tryz.prog 121 = some ti121 := by kernel_rfl
theorem ti122_e : tiOf Tryz.prog 122 = some ti122 := by kernel_rfl
theorem ti124_e : tiOf Tryz.prog 124 = some ti124 := by kernel_rfl
theorem ti125_e : tiOf Tryz.prog 125 = some ti125 := by kernel_rfl
theorem ti126_e : tiOf Tryz.prog 126 = some ti126 := by kernel_rfl
theorem ti127_e : tiOf Tryz.prog 127 = some ti127 := by kernel_rfl
theorem ti128_e : tiOf Tryz.prog 128 = some ti128 := by kernel_rfl
theorem ti129_e : tiOf Tryz.prog 129 = some ti129 := by kernel_rfl
theorem ti130_e : tiOf Tryz.prog 130 = some ti130 := by kernel_rfl
theorem ti131_e : tiOf Tryz.prog 131 = some ti131 := by kernel_rfl
theorem ti132_e : tiOf Tryz.prog 132 = some ti132 := by kernel_rfl
theorem ti134_e : tiOf Tryz.prog 134 = some ti134 := by kernel_rfl
theorem ti135_e : tiOf Tryz.prog 135 = some ti135 := by kernel_rfl
theorem ti136_e : tiOf Tryz.prog 136 = some ti136 := by kernel_rfl
theorem ti137_e : tiOf Tryz.prog 137 = some ti137 := by kernel_rfl
theorem ti138_e : tiOf Tryz.prog 138 = some ti138 := by kernel_rfl
theorem ti139_e : tiOf Tryz.prog 139 = some ti139 := by kernel_rfl
theorem ti140_e : tiOf Tryz.prog 140 = some ti140 := by kernel_rfl
theorem ti141_e : tiOf Tryz.prog 141 = some ti141 := by kernel_rfl
theorem ti142_e : tiOf Tryz.prog 142 = some ti142 := by kernel_rfl
theorem ti143_e : tiOf Tryz.prog 143 = some ti143 := by kernel_rfl
theorem ti144_e : tiOf Tryz.prog 144 = some ti144 := by kernel_rfl
theorem ti145_e : tiOf Tryz.prog 145 = some ti145 := by kernel_rfl
theorem ti146_e : tiOf Tryz.prog 146 = some ti146 := by kernel_rfl
theorem ti147_e : tiOf Tryz.prog 147 = some ti147 := by kernel_rfl
theorem ti148_e : tiOf Tryz.prog 148 = some ti148 := by kernel_rfl
theorem ti150_e : tiOf Tryz.prog 150 = some ti150 := by kernel_rfl
theorem ti151_e : tiOf Tryz.prog 151 = some ti151 := by kernel_rfl
theorem ti152_e : tiOf Tryz.prog 152 = some ti152 := by kernel_rfl
theorem ti153_e : tiOf Tryz.prog 153 = some ti153 := by kernel_rfl
theorem ti154_e : tiOf Tryz.prog 154 = some ti154 := by kernel_rfl
theorem ti155_e : tiOf Tryz.prog 155 = some ti155 := by kernel_rfl
theorem ti156_e : tiOf Tryz.prog 156 = some ti156 := by kernel_rfl
theorem ti157_e : tiOf Tryz.prog 157 = some ti157 := by kernel_rfl
theorem ti158_e : tiOf Tryz.prog 158 = some ti158 := by kernel_rfl
theorem ti159_e : tiOf Tryz.prog 159 = some ti159 := by kernel_rfl
theorem ti160_e : tiOf Tryz.prog 160 = some ti160 := by kernel_rfl
theorem ti161_e : tiOf Tryz.prog 161 = some ti161 := by kernel_rfl
theorem ti162_e : tiOf Tryz.prog 162 = some ti162 := by kernel_rfl
theorem ti163_e : tiOf Tryz.prog 163 = some ti163 := by kernel_rfl
theorem ti164_e : tiOf Tryz.prog 164 = some ti164 := by kernel_rfl
theorem ti165_e : tiOf Tryz.prog 165 = some ti165 := by kernel_rfl
theorem ti166_e : tiOf Tryz.prog 166 = some ti166 := by kernel_rfl
theorem ti167_e : tiOf Tryz.prog 167 = some ti167 := by kernel_rfl
theorem ti168_e : tiOf Tryz.prog 168 = some ti168 := by kernel_rfl
theorem ti169_e : tiOf Tryz.prog 169 = some ti169 := by kernel_rfl
theorem ti170_e : tiOf Tryz.prog 170 = some ti170 := by kernel_rfl
theorem ti171_e : tiOf Tryz.prog 171 = some ti171 := by kernel_rfl
theorem ti172_e : tiOf Tryz.prog 172 = some ti172 := by kernel_rfl
theorem ti173_e : tiOf Tryz.prog 173 = some ti173 := by kernel_rfl
theorem ti174_e : tiOf Tryz.prog 174 = some ti174 := by kernel_rfl
theorem ti175_e : tiOf Tryz.prog 175 = some ti175 := by kernel_rfl
theorem ti176_e : tiOf Tryz.prog 176 = some ti176 := by kernel_rfl
theorem ti177_e : tiOf Tryz.prog 177 = some ti177 := by kernel_rfl
theorem ti178_e : tiOf Tryz.prog 178 = some ti178 := by kernel_rfl
theorem ti179_e : tiOf Tryz.prog 179 = some ti179 := by kernel_rfl
theorem ti180_e : tiOf Tryz.prog 180 = some ti180 := by kernel_rfl
theorem ti181_e : tiOf Tryz.prog 181 = some ti181 := by kernel_rfl
theorem ti182_e : tiOf Tryz.prog 182 = some ti182 := by kernel_rfl
theorem ti183_e : tiOf Tryz.prog 183 = some ti183 := by kernel_rfl
theorem ti184_e : tiOf Tryz.prog 184 = some ti184 := by kernel_rfl
theorem ti185_e : tiOf Tryz.prog 185 = some ti185 := by kernel_rfl
theorem ti186_e : tiOf Tryz.prog 186 = some ti186 := by kernel_rfl
theorem ti187_e : tiOf Tryz.prog 187 = some ti187 := by kernel_rfl
theorem ti188_e : tiOf Tryz.prog 188 = some ti188 := by kernel_rfl
theorem ti189_e : tiOf Tryz.prog 189 = some ti189 := by kernel_rfl
theorem ti191_e : tiOf Tryz.prog 191 = some ti191 := by kernel_rfl
theorem ti192_e : tiOf Tryz.prog 192 = some ti192 := by kernel_rfl
theorem ti193_e : tiOf Tryz.prog 193 = some ti193 := by kernel_rfl
theorem ti194_e : tiOf Tryz.prog 194 = some ti194 := by kernel_rfl
theorem ti196_e : tiOf Tryz.prog 196 = some ti196 := by kernel_rfl
theorem ti197_e : tiOf Tryz.prog 197 = some ti197 := by kernel_rfl
theorem ti198_e : tiOf Tryz.prog 198 = some ti198 := by kernel_rfl
theorem ti199_e : tiOf Tryz.prog 199 = some ti199 := by kernel_rfl
theorem ti200_e : tiOf Tryz.prog 200 = some ti200 := by kernel_rfl
theorem ti201_e : tiOf Tryz.prog 201 = some ti201 := by kernel_rfl
theorem ti202_e : tiOf Tryz.prog 202 = some ti202 := by kernel_rfl
theorem ti203_e : tiOf Tryz.prog 203 = some ti203 := by kernel_rfl
theorem ti204_e : tiOf Tryz.prog 204 = some ti204 := by kernel_rfl
theorem ti205_e : tiOf Tryz.prog 205 = some ti205 := by kernel_rfl
theorem ti206_e : tiOf Tryz.prog 206 = some ti206 := by kernel_rfl
theorem ti207_e : tiOf Tryz.prog 207 = some ti207 := by kernel_rfl
theorem ti208_e : tiOf Tryz.prog 208 = some ti208 := by kernel_rfl
theorem ti209_e : tiOf Tryz.prog 209 = some ti209 := by kernel_rfl
theorem ti210_e : tiOf Tryz.prog 210 = some ti210 := by kernel_rfl
theorem ti211_e : tiOf Tryz.prog 211 = some ti211 := by kernel_rfl
theorem ti212_e : tiOf Tryz.prog 212 = some ti212 := by kernel_rfl
theorem ti213_e : tiOf Tryz.prog 213 = some ti213 := by kernel_rfl
theorem ti214_e : tiOf Tryz.prog 214 = some ti214 := by kernel_rfl
theorem ti216_e : tiOf Tryz.prog 216 = some ti216 := by kernel_rfl
theorem ti217_e : tiOf Tryz.prog 217 = some ti217 := by kernel_rfl
theorem ti218_e : tiOf Tryz.prog 218 = some ti218 := by kernel_rfl
theorem ti219_e : tiOf Tryz.prog 219 = some ti219 := by kernel_rfl
theorem ti220_e : tiOf Tryz.prog 220 = some ti220 := by kernel_rfl
theorem ti221_e : tiOf Tryz.prog 221 = some ti221 := by kernel_rfl
theorem ti222_e : tiOf Tryz.prog 222 = some ti222 := by kernel_rfl
theorem ti223_e : tiOf Tryz.prog 223 = some ti223 := by kernel_rfl
theorem ti224_e : tiOf Tryz.prog 224 = some ti224 := by kernel_rfl
theorem ti225_e : tiOf Tryz.prog 225 = some ti225 := by kernel_rfl
theorem ti226_e : tiOf Tryz.prog 226 = some ti226 := by kernel_rfl
theorem ti227_e : tiOf Tryz.prog 227 = some ti227 := by kernel_rfl
theorem ti228_e : tiOf Tryz.prog 228 = some ti228 := by kernel_rfl
theorem ti229_e : tiOf Tryz.prog 229 = some ti229 := by kernel_rfl
theorem ti230_e : tiOf Tryz.prog 230 = some ti230 := by kernel_rfl
theorem ti231_e : tiOf Tryz.prog 231 = some ti231 := by kernel_rfl
@[simp] theorem ty_1 : ty 1 = some ti1 := by kernel_rfl
@[simp] theorem ti1_size : ti1.size = 1 := rfl
@[simp] theorem ti1_agg : isAggK ti1.kind = false := rfl
@[simp] theorem ty_2 : ty 2 = some ti2 := by kernel_rfl
@[simp] theorem ti2_size : ti2.size = 1 := rfl
@[simp] theorem ti2_agg : isAggK ti2.kind = false := rfl
@[simp] theorem ty_3 : ty 3 = some ti3 := by kernel_rfl
@[simp] theorem ti3_size : ti3.size = 1 := rfl
@[simp] theorem ti3_agg : isAggK ti3.kind = false := rfl
@[simp] theorem ty_4 : ty 4 = some ti4 := by kernel_rfl
@[simp] theorem ti4_size : ti4.size = 1 := rfl
@[simp] theorem ti4_agg : isAggK ti4.kind = false := rfl
@[simp] theorem ty_5 : ty 5 = some ti5 := by kernel_rfl
@[simp] theorem ti5_size : ti5.size = 1 := rfl
@[simp] theorem ti5_agg : isAggK ti5.kind = false := rfl
@[simp] theorem ty_6 : ty 6 = some ti6 := by kernel_rfl
@[simp] theorem ti6_size : ti6.size = 1 := rfl
@[simp] theorem ti6_agg : isAggK ti6.kind = false := rfl
@[simp] theorem ty_7 : ty 7 = some ti7 := by kernel_rfl
@[simp] theorem ti7_size : ti7.size = 4 := rfl
@[simp] theorem ti7_agg : isAggK ti7.kind = true := rfl
@[simp] theorem ty_8 : ty 8 = some ti8 := by kernel_rfl
@[simp] theorem ti8_size : ti8.size = 4 := rfl
@[simp] theorem ti8_agg : isAggK ti8.kind = true := rfl
@[simp] theorem ty_9 : ty 9 = some ti9 := by kernel_rfl
@[simp] theorem ti9_size : ti9.size = 1 := rfl
@[simp] theorem ti9_agg : isAggK ti9.kind = false := rfl
@[simp] theorem ty_10 : ty 10 = some ti10 := by kernel_rfl
@[simp] theorem ti10_size : ti10.size = 1 := rfl
@[simp] theorem ti10_agg : isAggK ti10.kind = false := rfl
@[simp] theorem ty_11 : ty 11 = some ti11 := by kernel_rfl
@[simp] theorem ti11_size : ti11.size = 1 := rfl
@[simp] theorem ti11_agg : isAggK ti11.kind = false := rfl
@[simp] theorem ty_12 : ty 12 = some ti12 := by kernel_rfl
@[simp] theorem ti12_size : ti12.size = 1 := rfl
@[simp] theorem ti12_agg : isAggK ti12.kind = false := rfl
@[simp] theorem ty_13 : ty 13 = some ti13 := by kernel_rfl
@[simp] theorem ti13_size : ti13.size = 2 := rfl
@[simp] theorem ti13_agg : isAggK ti13.kind = true := rfl
@[simp] theorem ty_14 : ty 14 = some ti14 := by kernel_rfl
@[simp] theorem ti14_size : ti14.size = 2 := rfl
@[simp] theorem ti14_agg : isAggK ti14.kind = true := rfl
@[simp] theorem ty_15 : ty 15 = some ti15 := by kernel_rfl
@[simp] theorem ti15_size : ti15.size = 1 := rfl
@[simp] theorem ti15_agg : isAggK ti15.kind = false := rfl
@[simp] theorem ty_16 : ty 16 = some ti16 := by kernel_rfl
@[simp] theorem ti16_size : ti16.size = 1 := rfl
@[simp] theorem ti16_agg : isAggK ti16.kind = false := rfl
@[simp] theorem ty_17 : ty 17 = some ti17 := by kernel_rfl
@[simp] theorem ti17_size : ti17.size = 1 := rfl
@[simp] theorem ti17_agg : isAggK ti17.kind = false := rfl
@[simp] theorem ty_18 : ty 18 = some ti18 := by kernel_rfl
@[simp] theorem ti18_size : ti18.size = 1 := rfl
@[simp] theorem ti18_agg : isAggK ti18.kind = true := rfl
@[simp] theorem ty_19 : ty 19 = some ti19 := by kernel_rfl
@[simp] theorem ti19_size : ti19.size = 1 := rfl
@[simp] theorem ti19_agg : isAggK ti19.kind = true := rfl
@[simp] theorem ty_20 : ty 20 = some ti20 := by kernel_rfl
@[simp] theorem ti20_size : ti20.size = 1 := rfl
@[simp] theorem ti20_agg : isAggK ti20.kind = false := rfl
@[simp] theorem ty_21 : ty 21 = some ti21 := by kernel_rfl
@[simp] theorem ti21_size : ti21.size = 1 := rfl
@[simp] theorem ti21_agg : isAggK ti21.kind = false := rfl
@[simp] theorem ty_22 : ty 22 = some ti22 := by kernel_rfl
@[simp] theorem ti22_size : ti22.size = 1 := rfl
@[simp] theorem ti22_agg : isAggK ti22.kind = false := rfl
@[simp] theorem ty_23 : ty 23 = some ti23 := by kernel_rfl
@[simp] theorem ti23_size : ti23.size = 1 := rfl
@[simp] theorem ti23_agg : isAggK ti23.kind = false := rfl
@[simp] theorem ty_24 : ty 24 = some ti24 := by kernel_rfl
@[simp] theorem ti24_size : ti24.size = 1 := rfl
@[simp] theorem ti24_agg : isAggK ti24.kind = false := rfl
@[simp] theorem ty_26 : ty 26 = some ti26 := by kernel_rfl
@[simp] theorem ti26_size : ti26.size = 1 := rfl
@[simp] theorem ti26_agg : isAggK ti26.kind = false := rfl
@[simp] theorem ty_27 : ty 27 = some ti27 := by kernel_rfl
@[simp] theorem ti27_size : ti27.size = 1 := rfl
@[simp] theorem ti27_agg : isAggK ti27.kind = false := rfl
@[simp] theorem ty_28 : ty 28 = some ti28 := by kernel_rfl
@[simp] theorem ti28_size : ti28.size = 1 := rfl
@[simp] theorem ti28_agg : isAggK ti28.kind = false := rfl
@[simp] theorem ty_29 : ty 29 = some ti29 := by kernel_rfl
@[simp] theorem ti29_size : ti29.size = 1 := rfl
@[simp] theorem ti29_agg : isAggK ti29.kind = false := rfl
@[simp] theorem ty_30 : ty 30 = some ti30 := by kernel_rfl
@[simp] theorem ti30_size : ti30.size = 9 := rfl
@[simp] theorem ti30_agg : isAggK ti30.kind = true := rfl
@[simp] theorem ty_31 : ty 31 = some ti31 := by kernel_rfl
@[simp] theorem ti31_size : ti31.size = 3 := rfl
@[simp] theorem ti31_agg : isAggK ti31.kind = true := rfl
@[simp] theorem ty_32 : ty 32 = some ti32 := by kernel_rfl
@[simp] theorem ti32_size : ti32.size = 1 := rfl
@[simp] theorem ti32_agg : isAggK ti32.kind = false := rfl
@[simp] theorem ty_34 : ty 34 = some ti34 := by kernel_rfl
@[simp] theorem ti34_size : ti34.size = 1 := rfl
@[simp] theorem ti34_agg : isAggK ti34.kind = false := rfl
@[simp] theorem ty_35 : ty 35 = some ti35 := by kernel_rfl
@[simp] theorem ti35_size : ti35.size = 1 := rfl
@[simp] theorem ti35_agg : isAggK ti35.kind = false := rfl
@[simp] theorem ty_36 : ty 36 = some ti36 := by kernel_rfl
@[simp] theorem ti36_size : ti36.size = 3 := rfl
@[simp] theorem ti36_agg : isAggK ti36.kind = true := rfl
@[simp] theorem ty_37 : ty 37 = some ti37 := by kernel_rfl
@[simp] theorem ti37_size : ti37.size = 3 := rfl
@[simp] theorem ti37_agg : isAggK ti37.kind = true := rfl
@[simp] theorem ty_38 : ty 38 = some ti38 := by kernel_rfl
@[simp] theorem ti38_size : ti38.size = 1 := rfl
@[simp] theorem ti38_agg : isAggK ti38.kind = false := rfl
@[simp] theorem ty_39 : ty 39 = some ti39 := by kernel_rfl
@[simp] theorem ti39_size : ti39.size = 1 := rfl
@[simp] theorem ti39_agg : isAggK ti39.kind = false := rfl
@[simp] theorem ty_41 : ty 41 = some ti41 := by kernel_rfl
@[simp] theorem ti41_size : ti41.size = 1 := rfl
@[simp] theorem ti41_agg : isAggK ti41.kind = false := rfl
@[simp] theorem ty_42 : ty 42 = some ti42 := by kernel_rfl
@[simp] theorem ti42_size : ti42.size = 4 := rfl
@[simp] theorem ti42_agg : isAggK ti42.kind = true := rfl
@[simp] theorem ty_43 : ty 43 = some ti43 := by kernel_rfl
@[simp] theorem ti43_size : ti43.size = 4 := rfl
@[simp] theorem ti43_agg : isAggK ti43.kind = true := rfl
@[simp] theorem ty_44 : ty 44 = some ti44 := by kernel_rfl
@[simp] theorem ti44_size : ti44.size = 1 := rfl
@[simp] theorem ti44_agg : isAggK ti44.kind = false := rfl
@[simp] theorem ty_45 : ty 45 = some ti45 := by kernel_rfl
@[simp] theorem ti45_size : ti45.size = 1 := rfl
@[simp] theorem ti45_agg : isAggK ti45.kind = false := rfl
@[simp] theorem ty_46 : ty 46 = some ti46 := by kernel_rfl
@[simp] theorem ti46_size : ti46.size = 1 := rfl
@[simp] theorem ti46_agg : isAggK ti46.kind = false := rfl
@[simp] theorem ty_47 : ty 47 = some ti47 := by kernel_rfl
@[simp] theorem ti47_size : ti47.size = 2 := rfl
@[simp] theorem ti47_agg : isAggK ti47.kind = true := rfl
@[simp] theorem ty_48 : ty 48 = some ti48 := by kernel_rfl
@[simp] theorem ti48_size : ti48.size = 1 := rfl
@[simp] theorem ti48_agg : isAggK ti48.kind = false := rfl
@[simp] theorem ty_49 : ty 49 = some ti49 := by kernel_rfl
@[simp] theorem ti49_size : ti49.size = 1 := rfl
@[simp] theorem ti49_agg : isAggK ti49.kind = false := rfl
@[simp] theorem ty_50 : ty 50 = some ti50 := by kernel_rfl
@[simp] theorem ti50_size : ti50.size = 1 := rfl
@[simp] theorem ti50_agg : isAggK ti50.kind = false := rfl
@[simp] theorem ty_51 : ty 51 = some ti51 := by kernel_rfl
@[simp] theorem ti51_size : ti51.size = 1 := rfl
@[simp] theorem ti51_agg : isAggK ti51.kind = false := rfl
@[simp] theorem ty_52 : ty 52 = some ti52 := by kernel_rfl
@[simp] theorem ti52_size : ti52.size = 1 := rfl
@[simp] theorem ti52_agg : isAggK ti52.kind = false := rfl
@[simp] theorem ty_53 : ty 53 = some ti53 := by kernel_rfl
@[simp] theorem ti53_size : ti53.size = 1 := rfl
@[simp] theorem ti53_agg : isAggK ti53.kind = false := rfl
@[simp] theorem ty_54 : ty 54 = some ti54 := by kernel_rfl
@[simp] theorem ti54_size : ti54.size = 1 := rfl
@[simp] theorem ti54_agg : isAggK ti54.kind = false := rfl
@[simp] theorem ty_55 : ty 55 = some ti55 := by kernel_rfl
@[simp] theorem ti55_size : ti55.size = 1 := rfl
@[simp] theorem ti55_agg : isAggK ti55.kind = false := rfl
@[simp] theorem ty_56 : ty 56 = some ti56 := by kernel_rfl
@[simp] theorem ti56_size : ti56.size = 1 := rfl
@[simp] theorem ti56_agg : isAggK ti56.kind = false := rfl
@[simp] theorem ty_57 : ty 57 = some ti57 := by kernel_rfl
@[simp] theorem ti57_size : ti57.size = 4 := rfl
@[simp] theorem ti57_agg : isAggK ti57.kind = true := rfl
@[simp] theorem ty_58 : ty 58 = some ti58 := by kernel_rfl
@[simp] theorem ti58_size : ti58.size = 4 := rfl
@[simp] theorem ti58_agg : isAggK ti58.kind = true := rfl
@[simp] theorem ty_59 : ty 59 = some ti59 := by kernel_rfl
@[simp] theorem ti59_size : ti59.size = 1 := rfl
@[simp] theorem ti59_agg : isAggK ti59.kind = false := rfl
@[simp] theorem ty_61 : ty 61 = some ti61 := by kernel_rfl
@[simp] theorem ti61_size : ti61.size = 1 := rfl
@[simp] theorem ti61_agg : isAggK ti61.kind = false := rfl
@[simp] theorem ty_62 : ty 62 = some ti62 := by kernel_rfl
@[simp] theorem ti62_size : ti62.size = 1 := rfl
@[simp] theorem ti62_agg : isAggK ti62.kind = false := rfl
@[simp] theorem ty_63 : ty 63 = some ti63 := by kernel_rfl
@[simp] theorem ti63_size : ti63.size = 1 := rfl
@[simp] theorem ti63_agg : isAggK ti63.kind = false := rfl
@[simp] theorem ty_64 : ty 64 = some ti64 := by kernel_rfl
@[simp] theorem ti64_size : ti64.size = 1 := rfl
@[simp] theorem ti64_agg : isAggK ti64.kind = false := rfl
@[simp] theorem ty_65 : ty 65 = some ti65 := by kernel_rfl
@[simp] theorem ti65_size : ti65.size = 1 := rfl
@[simp] theorem ti65_agg : isAggK ti65.kind = false := rfl
@[simp] theorem ty_66 : ty 66 = some ti66 := by kernel_rfl
@[simp] theorem ti66_size : ti66.size = 1 := rfl
@[simp] theorem ti66_agg : isAggK ti66.kind = false := rfl
@[simp] theorem ty_67 : ty 67 = some ti67 := by kernel_rfl
@[simp] theorem ti67_size : ti67.size = 1 := rfl
@[simp] theorem ti67_agg : isAggK ti67.kind = false := rfl
@[simp] theorem ty_68 : ty 68 = some ti68 := by kernel_rfl
@[simp] theorem ti68_size : ti68.size = 4 := rfl
@[simp] theorem ti68_agg : isAggK ti68.kind = true := rfl
@[simp] theorem ty_69 : ty 69 = some ti69 := by kernel_rfl
@[simp] theorem ti69_size : ti69.size = 4 := rfl
@[simp] theorem ti69_agg : isAggK ti69.kind = true := rfl
@[simp] theorem ty_70 : ty 70 = some ti70 := by kernel_rfl
@[simp] theorem ti70_size : ti70.size = 1 := rfl
@[simp] theorem ti70_agg : isAggK ti70.kind = false := rfl
@[simp] theorem ty_71 : ty 71 = some ti71 := by kernel_rfl
@[simp] theorem ti71_size : ti71.size = 12 := rfl
@[simp] theorem ti71_agg : isAggK ti71.kind = true := rfl
@[simp] theorem ty_72 : ty 72 = some ti72 := by kernel_rfl
@[simp] theorem ti72_size : ti72.size = 13 := rfl
@[simp] theorem ti72_agg : isAggK ti72.kind = true := rfl
@[simp] theorem ty_73 : ty 73 = some ti73 := by kernel_rfl
@[simp] theorem ti73_size : ti73.size = 13 := rfl
@[simp] theorem ti73_agg : isAggK ti73.kind = true := rfl
@[simp] theorem ty_74 : ty 74 = some ti74 := by kernel_rfl
@[simp] theorem ti74_size : ti74.size = 6 := rfl
@[simp] theorem ti74_agg : isAggK ti74.kind = true := rfl
@[simp] theorem ty_75 : ty 75 = some ti75 := by kernel_rfl
@[simp] theorem ti75_size : ti75.size = 6 := rfl
@[simp] theorem ti75_agg : isAggK ti75.kind = true := rfl
@[simp] theorem ty_76 : ty 76 = some ti76 := by kernel_rfl
@[simp] theorem ti76_size : ti76.size = 1 := rfl
@[simp] theorem ti76_agg : isAggK ti76.kind = false := rfl
@[simp] theorem ty_77 : ty 77 = some ti77 := by kernel_rfl
@[simp] theorem ti77_size : ti77.size = 1 := rfl
@[simp] theorem ti77_agg : isAggK ti77.kind = false := rfl
@[simp] theorem ty_79 : ty 79 = some ti79 := by kernel_rfl
@[simp] theorem ti79_size : ti79.size = 1 := rfl
@[simp] theorem ti79_agg : isAggK ti79.kind = false := rfl
@[simp] theorem ty_80 : ty 80 = some ti80 := by kernel_rfl
@[simp] theorem ti80_size : ti80.size = 1 := rfl
@[simp] theorem ti80_agg : isAggK ti80.kind = false := rfl
@[simp] theorem ty_81 : ty 81 = some ti81 := by kernel_rfl
@[simp] theorem ti81_size : ti81.size = 1 := rfl
@[simp] theorem ti81_agg : isAggK ti81.kind = false := rfl
@[simp] theorem ty_82 : ty 82 = some ti82 := by kernel_rfl
@[simp] theorem ti82_size : ti82.size = 1 := rfl
@[simp] theorem ti82_agg : isAggK ti82.kind = false := rfl
@[simp] theorem ty_83 : ty 83 = some ti83 := by kernel_rfl
@[simp] theorem ti83_size : ti83.size = 1 := rfl
@[simp] theorem ti83_agg : isAggK ti83.kind = false := rfl
@[simp] theorem ty_84 : ty 84 = some ti84 := by kernel_rfl
@[simp] theorem ti84_size : ti84.size = 1 := rfl
@[simp] theorem ti84_agg : isAggK ti84.kind = false := rfl
@[simp] theorem ty_85 : ty 85 = some ti85 := by kernel_rfl
@[simp] theorem ti85_size : ti85.size = 1 := rfl
@[simp] theorem ti85_agg : isAggK ti85.kind = false := rfl
@[simp] theorem ty_86 : ty 86 = some ti86 := by kernel_rfl
@[simp] theorem ti86_size : ti86.size = 5 := rfl
@[simp] theorem ti86_agg : isAggK ti86.kind = true := rfl
@[simp] theorem ty_87 : ty 87 = some ti87 := by kernel_rfl
@[simp] theorem ti87_size : ti87.size = 5 := rfl
@[simp] theorem ti87_agg : isAggK ti87.kind = true := rfl
@[simp] theorem ty_88 : ty 88 = some ti88 := by kernel_rfl
@[simp] theorem ti88_size : ti88.size = 1 := rfl
@[simp] theorem ti88_agg : isAggK ti88.kind = false := rfl
@[simp] theorem ty_89 : ty 89 = some ti89 := by kernel_rfl
@[simp] theorem ti89_size : ti89.size = 1 := rfl
@[simp] theorem ti89_agg : isAggK ti89.kind = false := rfl
@[simp] theorem ty_90 : ty 90 = some ti90 := by kernel_rfl
@[simp] theorem ti90_size : ti90.size = 1 := rfl
@[simp] theorem ti90_agg : isAggK ti90.kind = false := rfl
@[simp] theorem ty_91 : ty 91 = some ti91 := by kernel_rfl
@[simp] theorem ti91_size : ti91.size = 1 := rfl
@[simp] theorem ti91_agg : isAggK ti91.kind = false := rfl
@[simp] theorem ty_92 : ty 92 = some ti92 := by kernel_rfl
@[simp] theorem ti92_size : ti92.size = 4 := rfl
@[simp] theorem ti92_agg : isAggK ti92.kind = true := rfl
@[simp] theorem ty_93 : ty 93 = some ti93 := by kernel_rfl
@[simp] theorem ti93_size : ti93.size = 1 := rfl
@[simp] theorem ti93_agg : isAggK ti93.kind = false := rfl
@[simp] theorem ty_94 : ty 94 = some ti94 := by kernel_rfl
@[simp] theorem ti94_size : ti94.size = 1 := rfl
@[simp] theorem ti94_agg : isAggK ti94.kind = false := rfl
@[simp] theorem ty_95 : ty 95 = some ti95 := by kernel_rfl
@[simp] theorem ti95_size : ti95.size = 1 := rfl
@[simp] theorem ti95_agg : isAggK ti95.kind = false := rfl
@[simp] theorem ty_96 : ty 96 = some ti96 := by kernel_rfl
@[simp] theorem ti96_size : ti96.size = 1 := rfl
@[simp] theorem ti96_agg : isAggK ti96.kind = false := rfl
@[simp] theorem ty_97 : ty 97 = some ti97 := by kernel_rfl
@[simp] theorem ti97_size : ti97.size = 1 := rfl
@[simp] theorem ti97_agg : isAggK ti97.kind = false := rfl
@[simp] theorem ty_98 : ty 98 = some ti98 := by kernel_rfl
@[simp] theorem ti98_size : ti98.size = 5 := rfl
@[simp] theorem ti98_agg : isAggK ti98.kind = true := rfl
@[simp] theorem ty_99 : ty 99 = some ti99 := by kernel_rfl
@[simp] theorem ti99_size : ti99.size = 5 := rfl
@[simp] theorem ti99_agg : isAggK ti99.kind = true := rfl
@[simp] theorem ty_100 : ty 100 = some ti100 := by kernel_rfl
@[simp] theorem ti100_size : ti100.size = 32 := rfl
@[simp] theorem ti100_agg : isAggK ti100.kind = true := rfl
@[simp] theorem ty_101 : ty 101 = some ti101 := by kernel_rfl
@[simp] theorem ti101_size : ti101.size = 1 := rfl
@[simp] theorem ti101_agg : isAggK ti101.kind = false := rfl
@[simp] theorem ty_102 : ty 102 = some ti102 := by kernel_rfl
@[simp] theorem ti102_size : ti102.size = 1 := rfl
@[simp] theorem ti102_agg : isAggK ti102.kind = false := rfl
@[simp] theorem ty_104 : ty 104 = some ti104 := by kernel_rfl
@[simp] theorem ti104_size : ti104.size = 1 := rfl
@[simp] theorem ti104_agg : isAggK ti104.kind = false := rfl
@[simp] theorem ty_105 : ty 105 = some ti105 := by kernel_rfl
@[simp] theorem ti105_size : ti105.size = 1 := rfl
@[simp] theorem ti105_agg : isAggK ti105.kind = false := rfl
@[simp] theorem ty_106 : ty 106 = some ti106 := by kernel_rfl
@[simp] theorem ti106_size : ti106.size = 1 := rfl
@[simp] theorem ti106_agg : isAggK ti106.kind = false := rfl
@[simp] theorem ty_107 : ty 107 = some ti107 := by kernel_rfl
@[simp] theorem ti107_size : ti107.size = 4 := rfl
@[simp] theorem ti107_agg : isAggK ti107.kind = true := rfl
@[simp] theorem ty_108 : ty 108 = some ti108 := by kernel_rfl
@[simp] theorem ti108_size : ti108.size = 4 := rfl
@[simp] theorem ti108_agg : isAggK ti108.kind = true := rfl
@[simp] theorem ty_109 : ty 109 = some ti109 := by kernel_rfl
@[simp] theorem ti109_size : ti109.size = 3 := rfl
@[simp] theorem ti109_agg : isAggK ti109.kind = true := rfl
@[simp] theorem ty_110 : ty 110 = some ti110 := by kernel_rfl
@[simp] theorem ti110_size : ti110.size = 3 := rfl
@[simp] theorem ti110_agg : isAggK ti110.kind = true := rfl
@[simp] theorem ty_111 : ty 111 = some ti111 := by kernel_rfl
@[simp] theorem ti111_size : ti111.size = 1 := rfl
@[simp] theorem ti111_agg : isAggK ti111.kind = false := rfl
@[simp] theorem ty_112 : ty 112 = some ti112 := by kernel_rfl
@[simp] theorem ti112_size : ti112.size = 1 := rfl
@[simp] theorem ti112_agg : isAggK ti112.kind = false := rfl
@[simp] theorem ty_114 : ty 114 = some ti114 := by kernel_rfl
@[simp] theorem ti114_size : ti114.size = 1 := rfl
@[simp] theorem ti114_agg : isAggK ti114.kind = false := rfl
@[simp] theorem ty_115 : ty 115 = some ti115 := by kernel_rfl
@[simp] theorem ti115_size : ti115.size = 3 := rfl
@[simp] theorem ti115_agg : isAggK ti115.kind = true := rfl
@[simp] theorem ty_116 : ty 116 = some ti116 := by kernel_rfl
@[simp] theorem ti116_size : ti116.size = 3 := rfl
@[simp] theorem ti116_agg : isAggK ti116.kind = true := rfl
@[simp] theorem ty_117 : ty 117 = some ti117 := by kernel_rfl
@[simp] theorem ti117_size : ti117.size = 1 := rfl
@[simp] theorem ti117_agg : isAggK ti117.kind = false := rfl
@[simp] theorem ty_118 : ty 118 = some ti118 := by kernel_rfl
@[simp] theorem ti118_size : ti118.size = 1 := rfl
@[simp] theorem ti118_agg : isAggK ti118.kind = false := rfl
@[simp] theorem ty_119 : ty 119 = some ti119 := by kernel_rfl
@[simp] theorem ti119_size : ti119.size = 1 := rfl
@[simp] theorem ti119_agg : isAggK ti119.kind = false := rfl
@[simp] theorem ty_120 : ty 120 = some ti120 := by kernel_rfl
@[simp] theorem ti120_size : ti120.size = 1 := rfl
@[simp] theorem ti120_agg : isAggK ti120.kind = false := rfl
@[simp] theorem ty_121 : ty 121 = some ti121 := by kernel_rfl
@[simp] theorem ti121_size : ti121.size = 1 := rfl
@[simp] theorem ti121_agg : isAggK ti121.kind = false := rfl
@[simp] theorem ty_122 : ty 122 = some ti122 := by kernel_rfl
@[simp] theorem ti122_size : ti122.size = 1 := rfl
@[simp] theorem ti122_agg : isAggK ti122.kind = false := rfl
@[simp] theorem ty_124 : ty 124 = some ti124 := by kernel_rfl
@[simp] theorem ti124_size : ti124.size = 1 := rfl
@[simp] theorem ti124_agg : isAggK ti124.kind = false := rfl
@[simp] theorem ty_125 : ty 125 = some ti125 := by kernel_rfl
@[simp] theorem ti125_size : ti125.size = 1 := rfl
@[simp] theorem ti125_agg : isAggK ti125.kind = false := rfl
@[simp] theorem ty_126 : ty 126 = some ti126 := by kernel_rfl
@[simp] theorem ti126_size : ti126.size = 1 := rfl
@[simp] theorem ti126_agg : isAggK ti126.kind = false := rfl
@[simp] theorem ty_127 : ty 127 = some ti127 := by kernel_rfl
@[simp] theorem ti127_size : ti127.size = 1 := rfl
@[simp] theorem ti127_agg : isAggK ti127.kind = false := rfl
@[simp] theorem ty_128 : ty 128 = some ti128 := by kernel_rfl
@[simp] theorem ti128_size : ti128.size = 1 := rfl
@[simp] theorem ti128_agg : isAggK ti128.kind = false := rfl
@[simp] theorem ty_129 : ty 129 = some ti129 := by kernel_rfl
@[simp] theorem ti129_size : ti129.size = 1 := rfl
@[simp] theorem ti129_agg : isAggK ti129.kind = false := rfl
@[simp] theorem ty_130 : ty 130 = some ti130 := by kernel_rfl
@[simp] theorem ti130_size : ti130.size = 1 := rfl
@[simp] theorem ti130_agg : isAggK ti130.kind = false := rfl
@[simp] theorem ty_131 : ty 131 = some ti131 := by kernel_rfl
@[simp] theorem ti131_size : ti131.size = 1 := rfl
@[simp] theorem ti131_agg : isAggK ti131.kind = false := rfl
@[simp] theorem ty_132 : ty 132 = some ti132 := by kernel_rfl
@[simp] theorem ti132_size : ti132.size = 1 := rfl
@[simp] theorem ti132_agg : isAggK ti132.kind = false := rfl
@[simp] theorem ty_134 : ty 134 = some ti134 := by kernel_rfl
@[simp] theorem ti134_size : ti134.size = 1 := rfl
@[simp] theorem ti134_agg : isAggK ti134.kind = false := rfl
@[simp] theorem ty_135 : ty 135 = some ti135 := by kernel_rfl
@[simp] theorem ti135_size : ti135.size = 1 := rfl
@[simp] theorem ti135_agg : isAggK ti135.kind = false := rfl
@[simp] theorem ty_136 : ty 136 = some ti136 := by kernel_rfl
@[simp] theorem ti136_size : ti136.size = 1 := rfl
@[simp] theorem ti136_agg : isAggK ti136.kind = false := rfl
@[simp] theorem ty_137 : ty 137 = some ti137 := by kernel_rfl
@[simp] theorem ti137_size : ti137.size = 1 := rfl
@[simp] theorem ti137_agg : isAggK ti137.kind = false := rfl
@[simp] theorem ty_138 : ty 138 = some ti138 := by kernel_rfl
@[simp] theorem ti138_size : ti138.size = 1 := rfl
@[simp] theorem ti138_agg : isAggK ti138.kind = false := rfl
@[simp] theorem ty_139 : ty 139 = some ti139 := by kernel_rfl
@[simp] theorem ti139_size : ti139.size = 1 := rfl
@[simp] theorem ti139_agg : isAggK ti139.kind = false := rfl
@[simp] theorem ty_140 : ty 140 = some ti140 := by kernel_rfl
@[simp] theorem ti140_size : ti140.size = 1 := rfl
@[simp] theorem ti140_agg : isAggK ti140.kind = false := rfl
@[simp] theorem ty_141 : ty 141 = some ti141 := by kernel_rfl
@[simp] theorem ti141_size : ti141.size = 1 := rfl
@[simp] theorem ti141_agg : isAggK ti141.kind = false := rfl
@[simp] theorem ty_142 : ty 142 = some ti142 := by kernel_rfl
@[simp] theorem ti142_size : ti142.size = 1 := rfl
@[simp] theorem ti142_agg : isAggK ti142.kind = false := rfl
@[simp] theorem ty_143 : ty 143 = some ti143 := by kernel_rfl
@[simp] theorem ti143_size : ti143.size = 1 := rfl
@[simp] theorem ti143_agg : isAggK ti143.kind = false := rfl
@[simp] theorem ty_144 : ty 144 = some ti144 := by kernel_rfl
@[simp] theorem ti144_size : ti144.size = 1 := rfl
@[simp] theorem ti144_agg : isAggK ti144.kind = false := rfl
@[simp] theorem ty_145 : ty 145 = some ti145 := by kernel_rfl
@[simp] theorem ti145_size : ti145.size = 1 := rfl
@[simp] theorem ti145_agg : isAggK ti145.kind = false := rfl
@[simp] theorem ty_146 : ty 146 = some ti146 := by kernel_rfl
@[simp] theorem ti146_size : ti146.size = 8 := rfl
@[simp] theorem ti146_agg : isAggK ti146.kind = true := rfl
@[simp] theorem ty_147 : ty 147 = some ti147 := by kernel_rfl
@[simp] theorem ti147_size : ti147.size = 1 := rfl
@[simp] theorem ti147_agg : isAggK ti147.kind = false := rfl
@[simp] theorem ty_148 : ty 148 = some ti148 := by kernel_rfl
@[simp] theorem ti148_size : ti148.size = 1 := rfl
@[simp] theorem ti148_agg : isAggK ti148.kind = false := rfl
@[simp] theorem ty_150 : ty 150 = some ti150 := by kernel_rfl
@[simp] theorem ti150_size : ti150.size = 1 := rfl
@[simp] theorem ti150_agg : isAggK ti150.kind = false := rfl
@[simp] theorem ty_151 : ty 151 = some ti151 := by kernel_rfl
@[simp] theorem ti151_size : ti151.size = 1 := rfl
@[simp] theorem ti151_agg : isAggK ti151.kind = false := rfl
@[simp] theorem ty_152 : ty 152 = some ti152 := by kernel_rfl
@[simp] theorem ti152_size : ti152.size = 1 := rfl
@[simp] theorem ti152_agg : isAggK ti152.kind = false := rfl
@[simp] theorem ty_153 : ty 153 = some ti153 := by kernel_rfl
@[simp] theorem ti153_size : ti153.size = 2 := rfl
@[simp] theorem ti153_agg : isAggK ti153.kind = true := rfl
@[simp] theorem ty_154 : ty 154 = some ti154 := by kernel_rfl
@[simp] theorem ti154_size : ti154.size = 2 := rfl
@[simp] theorem ti154_agg : isAggK ti154.kind = true := rfl
@[simp] theorem ty_155 : ty 155 = some ti155 := by kernel_rfl
@[simp] theorem ti155_size : ti155.size = 1 := rfl
@[simp] theorem ti155_agg : isAggK ti155.kind = false := rfl
@[simp] theorem ty_156 : ty 156 = some ti156 := by kernel_rfl
@[simp] theorem ti156_size : ti156.size = 1 := rfl
@[simp] theorem ti156_agg : isAggK ti156.kind = false := rfl
@[simp] theorem ty_157 : ty 157 = some ti157 := by kernel_rfl
@[simp] theorem ti157_size : ti157.size = 1 := rfl
@[simp] theorem ti157_agg : isAggK ti157.kind = false := rfl
@[simp] theorem ty_158 : ty 158 = some ti158 := by kernel_rfl
@[simp] theorem ti158_size : ti158.size = 1 := rfl
@[simp] theorem ti158_agg : isAggK ti158.kind = false := rfl
@[simp] theorem ty_159 : ty 159 = some ti159 := by kernel_rfl
@[simp] theorem ti159_size : ti159.size = 1 := rfl
@[simp] theorem ti159_agg : isAggK ti159.kind = false := rfl
@[simp] theorem ty_160 : ty 160 = some ti160 := by kernel_rfl
@[simp] theorem ti160_size : ti160.size = 1 := rfl
@[simp] theorem ti160_agg : isAggK ti160.kind = false := rfl
@[simp] theorem ty_161 : ty 161 = some ti161 := by kernel_rfl
@[simp] theorem ti161_size : ti161.size = 1 := rfl
@[simp] theorem ti161_agg : isAggK ti161.kind = false := rfl
@[simp] theorem ty_162 : ty 162 = some ti162 := by kernel_rfl
@[simp] theorem ti162_size : ti162.size = 1 := rfl
@[simp] theorem ti162_agg : isAggK ti162.kind = false := rfl
@[simp] theorem ty_163 : ty 163 = some ti163 := by kernel_rfl
@[simp] theorem ti163_size : ti163.size = 2 := rfl
@[simp] theorem ti163_agg : isAggK ti163.kind = true := rfl
@[simp] theorem ty_164 : ty 164 = some ti164 := by kernel_rfl
@[simp] theorem ti164_size : ti164.size = 1 := rfl
@[simp] theorem ti164_agg : isAggK ti164.kind = false := rfl
@[simp] theorem ty_165 : ty 165 = some ti165 := by kernel_rfl
@[simp] theorem ti165_size : ti165.size = 1 := rfl
@[simp] theorem ti165_agg : isAggK ti165.kind = false := rfl
@[simp] theorem ty_166 : ty 166 = some ti166 := by kernel_rfl
@[simp] theorem ti166_size : ti166.size = 64 := rfl
@[simp] theorem ti166_agg : isAggK ti166.kind = true := rfl
@[simp] theorem ty_167 : ty 167 = some ti167 := by kernel_rfl
@[simp] theorem ti167_size : ti167.size = 1 := rfl
@[simp] theorem ti167_agg : isAggK ti167.kind = false := rfl
@[simp] theorem ty_168 : ty 168 = some ti168 := by kernel_rfl
@[simp] theorem ti168_size : ti168.size = 1 := rfl
@[simp] theorem ti168_agg : isAggK ti168.kind = false := rfl
@[simp] theorem ty_169 : ty 169 = some ti169 := by kernel_rfl
@[simp] theorem ti169_size : ti169.size = 1 := rfl
@[simp] theorem ti169_agg : isAggK ti169.kind = false := rfl
@[simp] theorem ty_170 : ty 170 = some ti170 := by kernel_rfl
@[simp] theorem ti170_size : ti170.size = 1 := rfl
@[simp] theorem ti170_agg : isAggK ti170.kind = false := rfl
@[simp] theorem ty_171 : ty 171 = some ti171 := by kernel_rfl
@[simp] theorem ti171_size : ti171.size = 1 := rfl
@[simp] theorem ti171_agg : isAggK ti171.kind = false := rfl
@[simp] theorem ty_172 : ty 172 = some ti172 := by kernel_rfl
@[simp] theorem ti172_size : ti172.size = 1 := rfl
@[simp] theorem ti172_agg : isAggK ti172.kind = false := rfl
@[simp] theorem ty_173 : ty 173 = some ti173 := by kernel_rfl
@[simp] theorem ti173_size : ti173.size = 1 := rfl
@[simp] theorem ti173_agg : isAggK ti173.kind = false := rfl
@[simp] theorem ty_174 : ty 174 = some ti174 := by kernel_rfl
@[simp] theorem ti174_size : ti174.size = 1 := rfl
@[simp] theorem ti174_agg : isAggK ti174.kind = false := rfl
@[simp] theorem ty_175 : ty 175 = some ti175 := by kernel_rfl
@[simp] theorem ti175_size : ti175.size = 1 := rfl
@[simp] theorem ti175_agg : isAggK ti175.kind = false := rfl
@[simp] theorem ty_176 : ty 176 = some ti176 := by kernel_rfl
@[simp] theorem ti176_size : ti176.size = 1 := rfl
@[simp] theorem ti176_agg : isAggK ti176.kind = false := rfl
@[simp] theorem ty_177 : ty 177 = some ti177 := by kernel_rfl
@[simp] theorem ti177_size : ti177.size = 1 := rfl
@[simp] theorem ti177_agg : isAggK ti177.kind = false := rfl
@[simp] theorem ty_178 : ty 178 = some ti178 := by kernel_rfl
@[simp] theorem ti178_size : ti178.size = 2 := rfl
@[simp] theorem ti178_agg : isAggK ti178.kind = true := rfl
@[simp] theorem ty_179 : ty 179 = some ti179 := by kernel_rfl
@[simp] theorem ti179_size : ti179.size = 2 := rfl
@[simp] theorem ti179_agg : isAggK ti179.kind = true := rfl
@[simp] theorem ty_180 : ty 180 = some ti180 := by kernel_rfl
@[simp] theorem ti180_size : ti180.size = 1 := rfl
@[simp] theorem ti180_agg : isAggK ti180.kind = false := rfl
@[simp] theorem ty_181 : ty 181 = some ti181 := by kernel_rfl
@[simp] theorem ti181_size : ti181.size = 1 := rfl
@[simp] theorem ti181_agg : isAggK ti181.kind = false := rfl
@[simp] theorem ty_182 : ty 182 = some ti182 := by kernel_rfl
@[simp] theorem ti182_size : ti182.size = 1 := rfl
@[simp] theorem ti182_agg : isAggK ti182.kind = false := rfl
@[simp] theorem ty_183 : ty 183 = some ti183 := by kernel_rfl
@[simp] theorem ti183_size : ti183.size = 1 := rfl
@[simp] theorem ti183_agg : isAggK ti183.kind = false := rfl
@[simp] theorem ty_184 : ty 184 = some ti184 := by kernel_rfl
@[simp] theorem ti184_size : ti184.size = 1 := rfl
@[simp] theorem ti184_agg : isAggK ti184.kind = false := rfl
@[simp] theorem ty_185 : ty 185 = some ti185 := by kernel_rfl
@[simp] theorem ti185_size : ti185.size = 1 := rfl
@[simp] theorem ti185_agg : isAggK ti185.kind = false := rfl
@[simp] theorem ty_186 : ty 186 = some ti186 := by kernel_rfl
@[simp] theorem ti186_size : ti186.size = 1 := rfl
@[simp] theorem ti186_agg : isAggK ti186.kind = false := rfl
@[simp] theorem ty_187 : ty 187 = some ti187 := by kernel_rfl
@[simp] theorem ti187_size : ti187.size = 1 := rfl
@[simp] theorem ti187_agg : isAggK ti187.kind = false := rfl
@[simp] theorem ty_188 : ty 188 = some ti188 := by kernel_rfl
@[simp] theorem ti188_size : ti188.size = 1 := rfl
@[simp] theorem ti188_agg : isAggK ti188.kind = false := rfl
@[simp] theorem ty_189 : ty 189 = some ti189 := by kernel_rfl
@[simp] theorem ti189_size : ti189.size = 1 := rfl
@[simp] theorem ti189_agg : isAggK ti189.kind = false := rfl
@[simp] theorem ty_191 : ty 191 = some ti191 := by kernel_rfl
@[simp] theorem ti191_size : ti191.size = 1 := rfl
@[simp] theorem ti191_agg : isAggK ti191.kind = false := rfl
@[simp] theorem ty_192 : ty 192 = some ti192 := by kernel_rfl
@[simp] theorem ti192_size : ti192.size = 1 := rfl
@[simp] theorem ti192_agg : isAggK ti192.kind = false := rfl
@[simp] theorem ty_193 : ty 193 = some ti193 := by kernel_rfl
@[simp] theorem ti193_size : ti193.size = 1 := rfl
@[simp] theorem ti193_agg : isAggK ti193.kind = false := rfl
@[simp] theorem ty_194 : ty 194 = some ti194 := by kernel_rfl
@[simp] theorem ti194_size : ti194.size = 1 := rfl
@[simp] theorem ti194_agg : isAggK ti194.kind = false := rfl
@[simp] theorem ty_196 : ty 196 = some ti196 := by kernel_rfl
@[simp] theorem ti196_size : ti196.size = 1 := rfl
@[simp] theorem ti196_agg : isAggK ti196.kind = false := rfl
@[simp] theorem ty_197 : ty 197 = some ti197 := by kernel_rfl
@[simp] theorem ti197_size : ti197.size = 1 := rfl
@[simp] theorem ti197_agg : isAggK ti197.kind = false := rfl
@[simp] theorem ty_198 : ty 198 = some ti198 := by kernel_rfl
@[simp] theorem ti198_size : ti198.size = 1 := rfl
@[simp] theorem ti198_agg : isAggK ti198.kind = false := rfl
@[simp] theorem ty_199 : ty 199 = some ti199 := by kernel_rfl
@[simp] theorem ti199_size : ti199.size = 1 := rfl
@[simp] theorem ti199_agg : isAggK ti199.kind = false := rfl
@[simp] theorem ty_200 : ty 200 = some ti200 := by kernel_rfl
@[simp] theorem ti200_size : ti200.size = 1 := rfl
@[simp] theorem ti200_agg : isAggK ti200.kind = false := rfl
@[simp] theorem ty_201 : ty 201 = some ti201 := by kernel_rfl
@[simp] theorem ti201_size : ti201.size = 1 := rfl
@[simp] theorem ti201_agg : isAggK ti201.kind = false := rfl
@[simp] theorem ty_202 : ty 202 = some ti202 := by kernel_rfl
@[simp] theorem ti202_size : ti202.size = 1 := rfl
@[simp] theorem ti202_agg : isAggK ti202.kind = false := rfl
@[simp] theorem ty_203 : ty 203 = some ti203 := by kernel_rfl
@[simp] theorem ti203_size : ti203.size = 1 := rfl
@[simp] theorem ti203_agg : isAggK ti203.kind = false := rfl
@[simp] theorem ty_204 : ty 204 = some ti204 := by kernel_rfl
@[simp] theorem ti204_size : ti204.size = 10 := rfl
@[simp] theorem ti204_agg : isAggK ti204.kind = true := rfl
@[simp] theorem ty_205 : ty 205 = some ti205 := by kernel_rfl
@[simp] theorem ti205_size : ti205.size = 10 := rfl
@[simp] theorem ti205_agg : isAggK ti205.kind = true := rfl
@[simp] theorem ty_206 : ty 206 = some ti206 := by kernel_rfl
@[simp] theorem ti206_size : ti206.size = 1 := rfl
@[simp] theorem ti206_agg : isAggK ti206.kind = false := rfl
@[simp] theorem ty_207 : ty 207 = some ti207 := by kernel_rfl
@[simp] theorem ti207_size : ti207.size = 1 := rfl
@[simp] theorem ti207_agg : isAggK ti207.kind = false := rfl
@[simp] theorem ty_208 : ty 208 = some ti208 := by kernel_rfl
@[simp] theorem ti208_size : ti208.size = 1 := rfl
@[simp] theorem ti208_agg : isAggK ti208.kind = false := rfl
@[simp] theorem ty_209 : ty 209 = some ti209 := by kernel_rfl
@[simp] theorem ti209_size : ti209.size = 1 := rfl
@[simp] theorem ti209_agg : isAggK ti209.kind = false := rfl
@[simp] theorem ty_210 : ty 210 = some ti210 := by kernel_rfl
@[simp] theorem ti210_size : ti210.size = 1 := rfl
@[simp] theorem ti210_agg : isAggK ti210.kind = false := rfl
@[simp] theorem ty_211 : ty 211 = some ti211 := by kernel_rfl
@[simp] theorem ti211_size : ti211.size = 1 := rfl
@[simp] theorem ti211_agg : isAggK ti211.kind = false := rfl
@[simp] theorem ty_212 : ty 212 = some ti212 := by kernel_rfl
@[simp] theorem ti212_size : ti212.size = 1 := rfl
@[simp] theorem ti212_agg : isAggK ti212.kind = false := rfl
@[simp] theorem ty_213 : ty 213 = some ti213 := by kernel_rfl
@[simp] theorem ti213_size : ti213.size = 1 := rfl
@[simp] theorem ti213_agg : isAggK ti213.kind = false := rfl
@[simp] theorem ty_214 : ty 214 = some ti214 := by kernel_rfl
@[simp] theorem ti214_size : ti214.size = 1 := rfl
@[simp] theorem ti214_agg : isAggK ti214.kind = false := rfl
@[simp] theorem ty_216 : ty 216 = some ti216 := by kernel_rfl
@[simp] theorem ti216_size : ti216.size = 1 := rfl
@[simp] theorem ti216_agg : isAggK ti216.kind = false := rfl
@[simp] theorem ty_217 : ty 217 = some ti217 := by kernel_rfl
@[simp] theorem ti217_size : ti217.size = 1 := rfl
@[simp] theorem ti217_agg : isAggK ti217.kind = false := rfl
@[simp] theorem ty_218 : ty 218 = some ti218 := by kernel_rfl
@[simp] theorem ti218_size : ti218.size = 1 := rfl
@[simp] theorem ti218_agg : isAggK ti218.kind = false := rfl
@[simp] theorem ty_219 : ty 219 = some ti219 := by kernel_rfl
@[simp] theorem ti219_size : ti219.size = 4 := rfl
@[simp] theorem ti219_agg : isAggK ti219.kind = true := rfl
@[simp] theorem ty_220 : ty 220 = some ti220 := by kernel_rfl
@[simp] theorem ti220_size : ti220.size = 4 := rfl
@[simp] theorem ti220_agg : isAggK ti220.kind = true := rfl
@[simp] theorem ty_221 : ty 221 = some ti221 := by kernel_rfl
@[simp] theorem ti221_size : ti221.size = 0 := rfl
@[simp] theorem ti221_agg : isAggK ti221.kind = true := rfl
@[simp] theorem ty_222 : ty 222 = some ti222 := by kernel_rfl
@[simp] theorem ti222_size : ti222.size = 0 := rfl
@[simp] theorem ti222_agg : isAggK ti222.kind = true := rfl
@[simp] theorem ty_223 : ty 223 = some ti223 := by kernel_rfl
@[simp] theorem ti223_size : ti223.size = 0 := rfl
@[simp] theorem ti223_agg : isAggK ti223.kind = true := rfl
@[simp] theorem ty_224 : ty 224 = some ti224 := by kernel_rfl
@[simp] theorem ti224_size : ti224.size = 1 := rfl
@[simp] theorem ti224_agg : isAggK ti224.kind = false := rfl
@[simp] theorem ty_225 : ty 225 = some ti225 := by kernel_rfl
@[simp] theorem ti225_size : ti225.size = 1 := rfl
@[simp] theorem ti225_agg : isAggK ti225.kind = false := rfl
@[simp] theorem ty_226 : ty 226 = some ti226 := by kernel_rfl
@[simp] theorem ti226_size : ti226.size = 1 := rfl
@[simp] theorem ti226_agg : isAggK ti226.kind = false := rfl
@[simp] theorem ty_227 : ty 227 = some ti227 := by kernel_rfl
@[simp] theorem ti227_size : ti227.size = 1 := rfl
@[simp] theorem ti227_agg : isAggK ti227.kind = false := rfl
@[simp] theorem ty_228 : ty 228 = some ti228 := by kernel_rfl
@[simp] theorem ti228_size : ti228.size = 1 := rfl
@[simp] theorem ti228_agg : isAggK ti228.kind = false := rfl
@[simp] theorem ty_229 : ty 229 = some ti229 := by kernel_rfl
@[simp] theorem ti229_size : ti229.size = 1 := rfl
@[simp] theorem ti229_agg : isAggK ti229.kind = false := rfl
@[simp] theorem ty_230 : ty 230 = some ti230 := by kernel_rfl
@[simp] theorem ti230_size : ti230.size = 11 := rfl
@[simp] theorem ti230_agg : isAggK ti230.kind = true := rfl
@[simp] theorem ty_231 : ty 231 = some ti231 := by kernel_rfl
@[simp] theorem ti231_size : ti231.size = 11 := rfl
@[simp] theorem ti231_agg : isAggK ti231.kind = true := rfl
def mL : List (Nat × String × Nat) := [(23, "Accept", 12), (23, "Dead", 29), (23, "Floor", 18), (23, "Forget", 17), (23, "Prepare", 14), (23, "Promised", 11), (23, "Votes", 16), (23, "sealchain/vote.above", 46), (23, "sealchain/vote.does", 36), (23, "sealchain/vote.live", 40), (23, "sealchain/vote.none", 39), (23, "sealchain/vote.room", 43), (23, "sealchain/vote.writes", 45), (27, "Arm", 28), (27, "Crash", 30), (27, "Cut", 65), (27, "Dead", 31), (27, "Read", 60), (27, "Revive", 32), (27, "Swap", 98), (27, "Sync", 24), (27, "Write", 22), (27, "sealchain/disk.live", 52), (27, "sealchain/disk.none", 64), (27, "sealchain/disk.tear", 62), (53, "sealchain/sealchainlaw15.open", 26), (53, "sealchain/sealchainlaw15.same", 27), (54, "Cut", 130), (54, "Revive", 56), (54, "Sync", 25), (54, "Write", 23), (54, "sealchain/sealchainref13.cut", 101), (54, "sealchain/sealchainref13.fails", 55), (56, "sealchain/sealchainref15.above", 138), (56, "sealchain/sealchainref15.done", 103), (56, "sealchain/sealchainref15.lay", 137), (66, "Add", 85), (66, "Dead", 63), (66, "Rows", 35), (66, "Swap", 50), (66, "sealchain/wal.did", 97), (66, "sealchain/wal.live", 95), (66, "sealchain/wal.none", 67), (73, "sealchain/sealchainlaw15.holds", 33), (92, "sealchain/vote.bytes", 49), (93, "sealchain/vote.bytes", 47), (96, "sealchain/vote.bytes", 48), (120, "Count", 73), (120, "End", 76), (120, "Err", 108), (120, "Left", 113), (120, "Num", 72), (120, "Raw", 111), (120, "Text", 75), (120, "sealchain/num.fail", 110), (137, "Bytes", 121), (137, "Count", 92), (137, "Num", 91), (137, "Raw", 124), (137, "Text", 94), (137, "sealchain/num.put", 122), (170, "Count", 133), (170, "End", 136), (170, "Err", 148), (170, "Num", 132), (170, "Raw", 147), (170, "Text", 134), (170, "sealchain/sealchainref01.fail", 146), (183, "Copy", 181), (183, "Sum", 154), (183, "Write", 153), (183, "sealchain/sha.words", 179), (214, "Next", 184)]
def meth : TypeId → String → Option FuncId := tabM mL
theorem tab : TabOk Tryz.prog ty meth :=
  mkTab (show AllT Tryz.prog 0 tyL from ⟨trivial, ti1_e, ti2_e, ti3_e, ti4_e, ti5_e, ti6_e, ti7_e, ti8_e, ti9_e, ti10_e, ti11_e, ti12_e, ti13_e, ti14_e, ti15_e, ti16_e, ti17_e, ti18_e, ti19_e, ti20_e, ti21_e, ti22_e, ti23_e, ti24_e, trivial, ti26_e, ti27_e, ti28_e, ti29_e, ti30_e, ti31_e, ti32_e, trivial, ti34_e, ti35_e, ti36_e, ti37_e, ti38_e, ti39_e, trivial, ti41_e, ti42_e, ti43_e, ti44_e, ti45_e, ti46_e, ti47_e, ti48_e, ti49_e, ti50_e, ti51_e, ti52_e, ti53_e, ti54_e, ti55_e, ti56_e, ti57_e, ti58_e, ti59_e, trivial, ti61_e, ti62_e, ti63_e, ti64_e, ti65_e, ti66_e, ti67_e, ti68_e, ti69_e, ti70_e, ti71_e, ti72_e, ti73_e, ti74_e, ti75_e, ti76_e, ti77_e, trivial, ti79_e, ti80_e, ti81_e, ti82_e, ti83_e, ti84_e, ti85_e, ti86_e, ti87_e, ti88_e, ti89_e, ti90_e, ti91_e, ti92_e, ti93_e, ti94_e, ti95_e, ti96_e, ti97_e, ti98_e, ti99_e, ti100_e, ti101_e, ti102_e, trivial, ti104_e, ti105_e, ti106_e, ti107_e, ti108_e, ti109_e, ti110_e, ti111_e, ti112_e, trivial, ti114_e, ti115_e, ti116_e, ti117_e, ti118_e, ti119_e, ti120_e, ti121_e, ti122_e, trivial, ti124_e, ti125_e, ti126_e, ti127_e, ti128_e, ti129_e, ti130_e, ti131_e, ti132_e, trivial, ti134_e, ti135_e, ti136_e, ti137_e, ti138_e, ti139_e, ti140_e, ti141_e, ti142_e, ti143_e, ti144_e, ti145_e, ti146_e, ti147_e, ti148_e, trivial, ti150_e, ti151_e, ti152_e, ti153_e, ti154_e, ti155_e, ti156_e, ti157_e, ti158_e, ti159_e, ti160_e, ti161_e, ti162_e, ti163_e, ti164_e, ti165_e, ti166_e, ti167_e, ti168_e, ti169_e, ti170_e, ti171_e, ti172_e, ti173_e, ti174_e, ti175_e, ti176_e, ti177_e, ti178_e, ti179_e, ti180_e, ti181_e, ti182_e, ti183_e, ti184_e, ti185_e, ti186_e, ti187_e, ti188_e, ti189_e, trivial, ti191_e, ti192_e, ti193_e, ti194_e, trivial, ti196_e, ti197_e, ti198_e, ti199_e, ti200_e, ti201_e, ti202_e, ti203_e, ti204_e, ti205_e, ti206_e, ti207_e, ti208_e, ti209_e, ti210_e, ti211_e, ti212_e, ti213_e, ti214_e, trivial, ti216_e, ti217_e, ti218_e, ti219_e, ti220_e, ti221_e, ti222_e, ti223_e, ti224_e, ti225_e, ti226_e, ti227_e, ti228_e, ti229_e, ti230_e, ti231_e, trivial, trivial⟩) (show AllM Tryz.prog mL from ⟨by kernel_rfl, by kernel_rfl, by kernel_rfl, by kernel_rfl, by kernel_rfl, by kernel_rfl, by kernel_rfl, by kernel_rfl, by kernel_rfl, by kernel_rfl, by kernel_rfl, by kernel_rfl, by kernel_rfl, by kernel_rfl, by kernel_rfl, by kernel_rfl, by kernel_rfl, by kernel_rfl, by kernel_rfl, by kernel_rfl, by kernel_rfl, by kernel_rfl, by kernel_rfl, by kernel_rfl, by kernel_rfl, by kernel_rfl, by kernel_rfl, by kernel_rfl, by kernel_rfl, by kernel_rfl, by kernel_rfl, by kernel_rfl, by kernel_rfl, by kernel_rfl, by kernel_rfl, by kernel_rfl, by kernel_rfl, by kernel_rfl, by kernel_rfl, by kernel_rfl, by kernel_rfl, by kernel_rfl, by kernel_rfl, by kernel_rfl, by kernel_rfl, by kernel_rfl, by kernel_rfl, by kernel_rfl, by kernel_rfl, by kernel_rfl, by kernel_rfl, by kernel_rfl, by kernel_rfl, by kernel_rfl, by kernel_rfl, by kernel_rfl, by kernel_rfl, by kernel_rfl, by kernel_rfl, by kernel_rfl, by kernel_rfl, by kernel_rfl, by kernel_rfl, by kernel_rfl, by kernel_rfl, by kernel_rfl, by kernel_rfl, by kernel_rfl, by kernel_rfl, by kernel_rfl, by kernel_rfl, by kernel_rfl, by kernel_rfl, trivial⟩)
end Go.Proofs.Vt
