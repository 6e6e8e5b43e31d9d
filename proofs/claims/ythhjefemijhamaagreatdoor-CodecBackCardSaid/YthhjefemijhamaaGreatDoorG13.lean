/- Texts K1 A0. -/
import Derived.Test.YthhjefemijhamaaGreatDoorProg
import Derived.Test.YthhjefemijhamaaGreatDoorG11
set_option linter.unusedVariables false
set_option linter.unusedSimpArgs false
namespace Go.V
open Go.Proofs
set_option maxRecDepth 100000
@[go_sem] theorem k_bod_100 : bodied Tryz.prog 100=true:=by kernel_rfl
@[go_sem] theorem k_bod_101 : bodied Tryz.prog 101=true:=by kernel_rfl
@[go_sem] theorem k_bod_105 : bodied Tryz.prog 105=true:=by kernel_rfl
@[go_sem] theorem k_bod_106 : bodied Tryz.prog 106=true:=by kernel_rfl
@[go_sem] theorem k_bod_112 : bodied Tryz.prog 112=true:=by kernel_rfl
@[go_sem] theorem k_bod_113 : bodied Tryz.prog 113=true:=by kernel_rfl
@[go_sem] theorem k_bod_114 : bodied Tryz.prog 114=true:=by kernel_rfl
@[go_sem] theorem k_bod_115 : bodied Tryz.prog 115=true:=by kernel_rfl
@[go_sem] theorem k_bod_116 : bodied Tryz.prog 116=true:=by kernel_rfl
@[go_sem] theorem k_bod_117 : bodied Tryz.prog 117=true:=by kernel_rfl
@[go_sem] theorem k_bod_118 : bodied Tryz.prog 118=true:=by kernel_rfl
@[go_sem] theorem k_bod_119 : bodied Tryz.prog 119=true:=by kernel_rfl
@[go_sem] theorem k_bod_120 : bodied Tryz.prog 120=true:=by kernel_rfl
@[go_sem] theorem k_bod_121 : bodied Tryz.prog 121=true:=by kernel_rfl
@[go_sem] theorem k_bod_126 : bodied Tryz.prog 126=true:=by kernel_rfl
@[go_sem] theorem k_bod_127 : bodied Tryz.prog 127=true:=by kernel_rfl
@[go_sem] theorem k_bod_128 : bodied Tryz.prog 128=true:=by kernel_rfl
@[go_sem] theorem k_bod_13 : bodied Tryz.prog 13=true:=by kernel_rfl
@[go_sem] theorem k_bod_132 : bodied Tryz.prog 132=true:=by kernel_rfl
@[go_sem] theorem k_bod_133 : bodied Tryz.prog 133=true:=by kernel_rfl
@[go_sem] theorem k_bod_134 : bodied Tryz.prog 134=true:=by kernel_rfl
@[go_sem] theorem k_bod_135 : bodied Tryz.prog 135=true:=by kernel_rfl
@[go_sem] theorem k_bod_136 : bodied Tryz.prog 136=true:=by kernel_rfl
@[go_sem] theorem k_bod_137 : bodied Tryz.prog 137=true:=by kernel_rfl
@[go_sem] theorem k_bod_138 : bodied Tryz.prog 138=true:=by kernel_rfl
@[go_sem] theorem k_bod_139 : bodied Tryz.prog 139=true:=by kernel_rfl
@[go_sem] theorem k_bod_14 : bodied Tryz.prog 14=true:=by kernel_rfl
@[go_sem] theorem k_bod_140 : bodied Tryz.prog 140=true:=by kernel_rfl
@[go_sem] theorem k_bod_141 : bodied Tryz.prog 141=true:=by kernel_rfl
@[go_sem] theorem k_bod_142 : bodied Tryz.prog 142=true:=by kernel_rfl
@[go_sem] theorem k_bod_143 : bodied Tryz.prog 143=true:=by kernel_rfl
@[go_sem] theorem k_bod_144 : bodied Tryz.prog 144=true:=by kernel_rfl
@[go_sem] theorem k_bod_145 : bodied Tryz.prog 145=true:=by kernel_rfl
@[go_sem] theorem k_bod_15 : bodied Tryz.prog 15=true:=by kernel_rfl
@[go_sem] theorem k_bod_150 : bodied Tryz.prog 150=true:=by kernel_rfl
@[go_sem] theorem k_bod_154 : bodied Tryz.prog 154=true:=by kernel_rfl
@[go_sem] theorem k_bod_155 : bodied Tryz.prog 155=true:=by kernel_rfl
@[go_sem] theorem k_bod_156 : bodied Tryz.prog 156=true:=by kernel_rfl
@[go_sem] theorem k_bod_157 : bodied Tryz.prog 157=true:=by kernel_rfl
@[go_sem] theorem k_bod_158 : bodied Tryz.prog 158=true:=by kernel_rfl
@[go_sem] theorem k_bod_159 : bodied Tryz.prog 159=true:=by kernel_rfl
@[go_sem] theorem k_bod_16 : bodied Tryz.prog 16=true:=by kernel_rfl
@[go_sem] theorem k_bod_160 : bodied Tryz.prog 160=true:=by kernel_rfl
@[go_sem] theorem k_bod_161 : bodied Tryz.prog 161=true:=by kernel_rfl
@[go_sem] theorem k_bod_162 : bodied Tryz.prog 162=true:=by kernel_rfl
@[go_sem] theorem k_bod_163 : bodied Tryz.prog 163=true:=by kernel_rfl
@[go_sem] theorem k_bod_164 : bodied Tryz.prog 164=true:=by kernel_rfl
@[go_sem] theorem k_bod_165 : bodied Tryz.prog 165=true:=by kernel_rfl
@[go_sem] theorem k_bod_166 : bodied Tryz.prog 166=true:=by kernel_rfl
@[go_sem] theorem k_bod_167 : bodied Tryz.prog 167=true:=by kernel_rfl
@[go_sem] theorem k_bod_168 : bodied Tryz.prog 168=true:=by kernel_rfl
@[go_sem] theorem k_bod_169 : bodied Tryz.prog 169=true:=by kernel_rfl
@[go_sem] theorem k_bod_17 : bodied Tryz.prog 17=true:=by kernel_rfl
@[go_sem] theorem k_bod_171 : bodied Tryz.prog 171=true:=by kernel_rfl
@[go_sem] theorem k_bod_172 : bodied Tryz.prog 172=true:=by kernel_rfl
@[go_sem] theorem k_bod_173 : bodied Tryz.prog 173=true:=by kernel_rfl
@[go_sem] theorem k_bod_175 : bodied Tryz.prog 175=true:=by kernel_rfl
@[go_sem] theorem k_bod_176 : bodied Tryz.prog 176=true:=by kernel_rfl
@[go_sem] theorem k_bod_177 : bodied Tryz.prog 177=true:=by kernel_rfl
@[go_sem] theorem k_bod_178 : bodied Tryz.prog 178=true:=by kernel_rfl
@[go_sem] theorem k_bod_179 : bodied Tryz.prog 179=true:=by kernel_rfl
@[go_sem] theorem k_bod_18 : bodied Tryz.prog 18=true:=by kernel_rfl
@[go_sem] theorem k_bod_180 : bodied Tryz.prog 180=true:=by kernel_rfl
@[go_sem] theorem k_bod_181 : bodied Tryz.prog 181=true:=by kernel_rfl
@[go_sem] theorem k_bod_182 : bodied Tryz.prog 182=true:=by kernel_rfl
@[go_sem] theorem k_bod_183 : bodied Tryz.prog 183=true:=by kernel_rfl
@[go_sem] theorem k_bod_184 : bodied Tryz.prog 184=true:=by kernel_rfl
@[go_sem] theorem k_bod_187 : bodied Tryz.prog 187=true:=by kernel_rfl
@[go_sem] theorem k_bod_188 : bodied Tryz.prog 188=true:=by kernel_rfl
@[go_sem] theorem k_bod_189 : bodied Tryz.prog 189=true:=by kernel_rfl
@[go_sem] theorem k_bod_19 : bodied Tryz.prog 19=true:=by kernel_rfl
@[go_sem] theorem k_bod_190 : bodied Tryz.prog 190=true:=by kernel_rfl
@[go_sem] theorem k_bod_191 : bodied Tryz.prog 191=true:=by kernel_rfl
@[go_sem] theorem k_bod_192 : bodied Tryz.prog 192=true:=by kernel_rfl
@[go_sem] theorem k_bod_193 : bodied Tryz.prog 193=true:=by kernel_rfl
@[go_sem] theorem k_bod_194 : bodied Tryz.prog 194=true:=by kernel_rfl
@[go_sem] theorem k_bod_195 : bodied Tryz.prog 195=true:=by kernel_rfl
@[go_sem] theorem k_bod_196 : bodied Tryz.prog 196=true:=by kernel_rfl
@[go_sem] theorem k_bod_199 : bodied Tryz.prog 199=true:=by kernel_rfl
@[go_sem] theorem k_bod_20 : bodied Tryz.prog 20=true:=by kernel_rfl
@[go_sem] theorem k_bod_200 : bodied Tryz.prog 200=true:=by kernel_rfl
@[go_sem] theorem k_bod_201 : bodied Tryz.prog 201=true:=by kernel_rfl
@[go_sem] theorem k_bod_202 : bodied Tryz.prog 202=true:=by kernel_rfl
@[go_sem] theorem k_bod_203 : bodied Tryz.prog 203=true:=by kernel_rfl
@[go_sem] theorem k_bod_204 : bodied Tryz.prog 204=true:=by kernel_rfl
@[go_sem] theorem k_bod_205 : bodied Tryz.prog 205=true:=by kernel_rfl
@[go_sem] theorem k_bod_206 : bodied Tryz.prog 206=true:=by kernel_rfl
@[go_sem] theorem k_bod_207 : bodied Tryz.prog 207=true:=by kernel_rfl
@[go_sem] theorem k_bod_208 : bodied Tryz.prog 208=true:=by kernel_rfl
@[go_sem] theorem k_bod_209 : bodied Tryz.prog 209=true:=by kernel_rfl
@[go_sem] theorem k_bod_21 : bodied Tryz.prog 21=true:=by kernel_rfl
@[go_sem] theorem k_bod_210 : bodied Tryz.prog 210=true:=by kernel_rfl
@[go_sem] theorem k_bod_211 : bodied Tryz.prog 211=true:=by kernel_rfl
@[go_sem] theorem k_bod_212 : bodied Tryz.prog 212=true:=by kernel_rfl
@[go_sem] theorem k_bod_213 : bodied Tryz.prog 213=true:=by kernel_rfl
@[go_sem] theorem k_bod_214 : bodied Tryz.prog 214=true:=by kernel_rfl
@[go_sem] theorem k_bod_215 : bodied Tryz.prog 215=true:=by kernel_rfl
@[go_sem] theorem k_bod_217 : bodied Tryz.prog 217=true:=by kernel_rfl
@[go_sem] theorem k_bod_22 : bodied Tryz.prog 22=true:=by kernel_rfl
@[go_sem] theorem k_bod_23 : bodied Tryz.prog 23=true:=by kernel_rfl
@[go_sem] theorem k_bod_24 : bodied Tryz.prog 24=true:=by kernel_rfl
@[go_sem] theorem k_bod_25 : bodied Tryz.prog 25=true:=by kernel_rfl
@[go_sem] theorem k_bod_26 : bodied Tryz.prog 26=true:=by kernel_rfl
@[go_sem] theorem k_bod_27 : bodied Tryz.prog 27=true:=by kernel_rfl
@[go_sem] theorem k_bod_28 : bodied Tryz.prog 28=true:=by kernel_rfl
@[go_sem] theorem k_bod_29 : bodied Tryz.prog 29=true:=by kernel_rfl
@[go_sem] theorem k_bod_30 : bodied Tryz.prog 30=true:=by kernel_rfl
@[go_sem] theorem k_bod_31 : bodied Tryz.prog 31=true:=by kernel_rfl
@[go_sem] theorem k_bod_32 : bodied Tryz.prog 32=true:=by kernel_rfl
@[go_sem] theorem k_bod_33 : bodied Tryz.prog 33=true:=by kernel_rfl
@[go_sem] theorem k_bod_34 : bodied Tryz.prog 34=true:=by kernel_rfl
@[go_sem] theorem k_bod_35 : bodied Tryz.prog 35=true:=by kernel_rfl
@[go_sem] theorem k_bod_38 : bodied Tryz.prog 38=true:=by kernel_rfl
@[go_sem] theorem k_bod_39 : bodied Tryz.prog 39=true:=by kernel_rfl
@[go_sem] theorem k_bod_41 : bodied Tryz.prog 41=true:=by kernel_rfl
@[go_sem] theorem k_bod_42 : bodied Tryz.prog 42=true:=by kernel_rfl
@[go_sem] theorem k_bod_46 : bodied Tryz.prog 46=true:=by kernel_rfl
@[go_sem] theorem k_bod_47 : bodied Tryz.prog 47=true:=by kernel_rfl
@[go_sem] theorem k_bod_48 : bodied Tryz.prog 48=true:=by kernel_rfl
@[go_sem] theorem k_bod_49 : bodied Tryz.prog 49=true:=by kernel_rfl
@[go_sem] theorem k_bod_50 : bodied Tryz.prog 50=true:=by kernel_rfl
@[go_sem] theorem k_bod_51 : bodied Tryz.prog 51=true:=by kernel_rfl
@[go_sem] theorem k_bod_52 : bodied Tryz.prog 52=true:=by kernel_rfl
@[go_sem] theorem k_bod_54 : bodied Tryz.prog 54=true:=by kernel_rfl
@[go_sem] theorem k_bod_55 : bodied Tryz.prog 55=true:=by kernel_rfl
@[go_sem] theorem k_bod_57 : bodied Tryz.prog 57=true:=by kernel_rfl
@[go_sem] theorem k_bod_59 : bodied Tryz.prog 59=true:=by kernel_rfl
@[go_sem] theorem k_bod_60 : bodied Tryz.prog 60=true:=by kernel_rfl
@[go_sem] theorem k_bod_61 : bodied Tryz.prog 61=true:=by kernel_rfl
@[go_sem] theorem k_bod_63 : bodied Tryz.prog 63=true:=by kernel_rfl
@[go_sem] theorem k_bod_64 : bodied Tryz.prog 64=true:=by kernel_rfl
@[go_sem] theorem k_bod_65 : bodied Tryz.prog 65=true:=by kernel_rfl
@[go_sem] theorem k_bod_66 : bodied Tryz.prog 66=true:=by kernel_rfl
@[go_sem] theorem k_bod_67 : bodied Tryz.prog 67=true:=by kernel_rfl
@[go_sem] theorem k_bod_68 : bodied Tryz.prog 68=true:=by kernel_rfl
@[go_sem] theorem k_bod_69 : bodied Tryz.prog 69=true:=by kernel_rfl
@[go_sem] theorem k_bod_70 : bodied Tryz.prog 70=true:=by kernel_rfl
@[go_sem] theorem k_bod_71 : bodied Tryz.prog 71=true:=by kernel_rfl
@[go_sem] theorem k_bod_72 : bodied Tryz.prog 72=true:=by kernel_rfl
@[go_sem] theorem k_bod_75 : bodied Tryz.prog 75=true:=by kernel_rfl
@[go_sem] theorem k_bod_76 : bodied Tryz.prog 76=true:=by kernel_rfl
@[go_sem] theorem k_bod_77 : bodied Tryz.prog 77=true:=by kernel_rfl
@[go_sem] theorem k_bod_78 : bodied Tryz.prog 78=true:=by kernel_rfl
@[go_sem] theorem k_bod_79 : bodied Tryz.prog 79=true:=by kernel_rfl
@[go_sem] theorem k_bod_80 : bodied Tryz.prog 80=true:=by kernel_rfl
@[go_sem] theorem k_bod_81 : bodied Tryz.prog 81=true:=by kernel_rfl
@[go_sem] theorem k_bod_82 : bodied Tryz.prog 82=true:=by kernel_rfl
@[go_sem] theorem k_bod_83 : bodied Tryz.prog 83=true:=by kernel_rfl
@[go_sem] theorem k_bod_84 : bodied Tryz.prog 84=true:=by kernel_rfl
@[go_sem] theorem k_bod_92 : bodied Tryz.prog 92=true:=by kernel_rfl
@[go_sem] theorem k_bod_93 : bodied Tryz.prog 93=true:=by kernel_rfl
@[go_sem] theorem k_bod_94 : bodied Tryz.prog 94=true:=by kernel_rfl
@[go_sem] theorem k_bod_95 : bodied Tryz.prog 95=true:=by kernel_rfl
@[go_sem] theorem k_bod_96 : bodied Tryz.prog 96=true:=by kernel_rfl
@[go_sem] theorem k_bod_97 : bodied Tryz.prog 97=true:=by kernel_rfl
@[go_sem] theorem k_bod_98 : bodied Tryz.prog 98=true:=by kernel_rfl
@[go_sem] theorem k_bod_99 : bodied Tryz.prog 99=true:=by kernel_rfl
@[go_sem] theorem k_grd_34 : Tryz.prog.eqGuardType Tryz.prog.depth 34=false:=by kernel_rfl
@[go_sem] theorem k_tagg_103 : tagg Tryz.prog 103=some true:=by kernel_rfl
@[go_sem] theorem k_tagg_104 : tagg Tryz.prog 104=some false:=by kernel_rfl
@[go_sem] theorem k_tagg_105 : tagg Tryz.prog 105=some false:=by kernel_rfl
@[go_sem] theorem k_tagg_120 : tagg Tryz.prog 120=some false:=by kernel_rfl
@[go_sem] theorem k_tagg_128 : tagg Tryz.prog 128=some false:=by kernel_rfl
@[go_sem] theorem k_tagg_135 : tagg Tryz.prog 135=some false:=by kernel_rfl
@[go_sem] theorem k_tagg_143 : tagg Tryz.prog 143=some false:=by kernel_rfl
@[go_sem] theorem k_tagg_186 : tagg Tryz.prog 186=some false:=by kernel_rfl
@[go_sem] theorem k_tagg_187 : tagg Tryz.prog 187=some false:=by kernel_rfl
@[go_sem] theorem k_tagg_189 : tagg Tryz.prog 189=some true:=by kernel_rfl
@[go_sem] theorem k_tagg_190 : tagg Tryz.prog 190=some false:=by kernel_rfl
@[go_sem] theorem k_tagg_196 : tagg Tryz.prog 196=some true:=by kernel_rfl
@[go_sem] theorem k_tagg_2 : tagg Tryz.prog 2=some false:=by kernel_rfl
@[go_sem] theorem k_tagg_202 : tagg Tryz.prog 202=some true:=by kernel_rfl
@[go_sem] theorem k_tagg_218 : tagg Tryz.prog 218=some true:=by kernel_rfl
@[go_sem] theorem k_tagg_219 : tagg Tryz.prog 219=some true:=by kernel_rfl
@[go_sem] theorem k_tagg_22 : tagg Tryz.prog 22=some false:=by kernel_rfl
@[go_sem] theorem k_tagg_24 : tagg Tryz.prog 24=some true:=by kernel_rfl
@[go_sem] theorem k_tagg_243 : tagg Tryz.prog 243=some true:=by kernel_rfl
@[go_sem] theorem k_tagg_25 : tagg Tryz.prog 25=some false:=by kernel_rfl
@[go_sem] theorem k_tagg_253 : tagg Tryz.prog 253=some false:=by kernel_rfl
@[go_sem] theorem k_tagg_26 : tagg Tryz.prog 26=some false:=by kernel_rfl
@[go_sem] theorem k_tagg_28 : tagg Tryz.prog 28=some true:=by kernel_rfl
@[go_sem] theorem k_tagg_3 : tagg Tryz.prog 3=some false:=by kernel_rfl
@[go_sem] theorem k_tagg_31 : tagg Tryz.prog 31=some false:=by kernel_rfl
@[go_sem] theorem k_tagg_34 : tagg Tryz.prog 34=some true:=by kernel_rfl
@[go_sem] theorem k_tagg_35 : tagg Tryz.prog 35=some false:=by kernel_rfl
@[go_sem] theorem k_tagg_37 : tagg Tryz.prog 37=some true:=by kernel_rfl
@[go_sem] theorem k_tagg_38 : tagg Tryz.prog 38=some false:=by kernel_rfl
@[go_sem] theorem k_tagg_40 : tagg Tryz.prog 40=some true:=by kernel_rfl
@[go_sem] theorem k_tagg_42 : tagg Tryz.prog 42=some true:=by kernel_rfl
@[go_sem] theorem k_tagg_5 : tagg Tryz.prog 5=some false:=by kernel_rfl
@[go_sem] theorem k_tagg_50 : tagg Tryz.prog 50=some false:=by kernel_rfl
@[go_sem] theorem k_tagg_59 : tagg Tryz.prog 59=some false:=by kernel_rfl
@[go_sem] theorem k_tagg_9 : tagg Tryz.prog 9=some false:=by kernel_rfl
@[go_sem] theorem k_tagg_93 : tagg Tryz.prog 93=some true:=by kernel_rfl
@[go_sem] theorem k_tarr_164 : tarr Tryz.prog 164=some (20,5):=by kernel_rfl
@[go_sem] theorem k_tarr_202 : tarr Tryz.prog 202=some (23,9):=by kernel_rfl
@[go_sem] theorem k_tarr_219 : tarr Tryz.prog 219=some (5,218):=by kernel_rfl
@[go_sem] theorem k_tarr_251 : tarr Tryz.prog 251=some (8,5):=by kernel_rfl
@[go_sem] theorem k_tarr_291 : tarr Tryz.prog 291=some (32,5):=by kernel_rfl
@[go_sem] theorem k_tby_103 : tby Tryz.prog 103=some 32:=by kernel_rfl
@[go_sem] theorem k_tby_196 : tby Tryz.prog 196=some 112:=by kernel_rfl
@[go_sem] theorem k_tby_243 : tby Tryz.prog 243=some 120:=by kernel_rfl
@[go_sem] theorem k_tby_28 : tby Tryz.prog 28=some 80:=by kernel_rfl
@[go_sem] theorem k_tby_3 : tby Tryz.prog 3=some 8:=by kernel_rfl
@[go_sem] theorem k_tby_35 : tby Tryz.prog 35=some 8:=by kernel_rfl
@[go_sem] theorem k_tby_42 : tby Tryz.prog 42=some 96:=by kernel_rfl
@[go_sem] theorem k_tby_5 : tby Tryz.prog 5=some 1:=by kernel_rfl
@[go_sem] theorem k_tby_9 : tby Tryz.prog 9=some 16:=by kernel_rfl
@[go_sem] theorem k_tcomp_103 : tcomp Tryz.prog 103=some true:=by kernel_rfl
@[go_sem] theorem k_tcomp_109 : tcomp Tryz.prog 109=some true:=by kernel_rfl
@[go_sem] theorem k_tcomp_137 : tcomp Tryz.prog 137=some true:=by kernel_rfl
@[go_sem] theorem k_tcomp_145 : tcomp Tryz.prog 145=some true:=by kernel_rfl
@[go_sem] theorem k_tcomp_189 : tcomp Tryz.prog 189=some true:=by kernel_rfl
@[go_sem] theorem k_tcomp_192 : tcomp Tryz.prog 192=some true:=by kernel_rfl
@[go_sem] theorem k_tcomp_196 : tcomp Tryz.prog 196=some true:=by kernel_rfl
@[go_sem] theorem k_tcomp_218 : tcomp Tryz.prog 218=some true:=by kernel_rfl
@[go_sem] theorem k_tcomp_219 : tcomp Tryz.prog 219=some true:=by kernel_rfl
@[go_sem] theorem k_tcomp_24 : tcomp Tryz.prog 24=some true:=by kernel_rfl
@[go_sem] theorem k_tcomp_243 : tcomp Tryz.prog 243=some true:=by kernel_rfl
@[go_sem] theorem k_tcomp_28 : tcomp Tryz.prog 28=some true:=by kernel_rfl
@[go_sem] theorem k_tcomp_34 : tcomp Tryz.prog 34=some true:=by kernel_rfl
@[go_sem] theorem k_tcomp_37 : tcomp Tryz.prog 37=some true:=by kernel_rfl
@[go_sem] theorem k_tcomp_40 : tcomp Tryz.prog 40=some true:=by kernel_rfl
@[go_sem] theorem k_tcomp_42 : tcomp Tryz.prog 42=some true:=by kernel_rfl
@[go_sem] theorem k_tcomp_84 : tcomp Tryz.prog 84=some true:=by kernel_rfl
@[go_sem] theorem k_tcomp_93 : tcomp Tryz.prog 93=some true:=by kernel_rfl
@[go_sem] theorem k_teq_34 : teq Tryz.prog 34=some [(3,0),(2,1),(9,2)]:=by kernel_rfl
@[go_sem] theorem k_tfld_103_0 : tfld Tryz.prog 103 0=some 0:=by kernel_rfl
@[go_sem] theorem k_tfld_103_1 : tfld Tryz.prog 103 1=some 1:=by kernel_rfl
@[go_sem] theorem k_tfld_103_2 : tfld Tryz.prog 103 2=some 2:=by kernel_rfl
@[go_sem] theorem k_tfld_107_0 : tfld Tryz.prog 107 0=some 0:=by kernel_rfl
@[go_sem] theorem k_tfld_107_1 : tfld Tryz.prog 107 1=some 2:=by kernel_rfl
@[go_sem] theorem k_tfld_107_2 : tfld Tryz.prog 107 2=some 3:=by kernel_rfl
@[go_sem] theorem k_tfld_107_3 : tfld Tryz.prog 107 3=some 4:=by kernel_rfl
@[go_sem] theorem k_tfld_109_0 : tfld Tryz.prog 109 0=some 0:=by kernel_rfl
@[go_sem] theorem k_tfld_137_0 : tfld Tryz.prog 137 0=some 0:=by kernel_rfl
@[go_sem] theorem k_tfld_137_1 : tfld Tryz.prog 137 1=some 1:=by kernel_rfl
@[go_sem] theorem k_tfld_145_0 : tfld Tryz.prog 145 0=some 0:=by kernel_rfl
@[go_sem] theorem k_tfld_145_1 : tfld Tryz.prog 145 1=some 1:=by kernel_rfl
@[go_sem] theorem k_tfld_145_2 : tfld Tryz.prog 145 2=some 2:=by kernel_rfl
@[go_sem] theorem k_tfld_145_3 : tfld Tryz.prog 145 3=some 3:=by kernel_rfl
@[go_sem] theorem k_tfld_189_0 : tfld Tryz.prog 189 0=some 0:=by kernel_rfl
@[go_sem] theorem k_tfld_189_1 : tfld Tryz.prog 189 1=some 1:=by kernel_rfl
@[go_sem] theorem k_tfld_192_0 : tfld Tryz.prog 192 0=some 0:=by kernel_rfl
@[go_sem] theorem k_tfld_192_1 : tfld Tryz.prog 192 1=some 2:=by kernel_rfl
@[go_sem] theorem k_tfld_196_0 : tfld Tryz.prog 196 0=some 0:=by kernel_rfl
@[go_sem] theorem k_tfld_196_1 : tfld Tryz.prog 196 1=some 1:=by kernel_rfl
@[go_sem] theorem k_tfld_218_0 : tfld Tryz.prog 218 0=some 0:=by kernel_rfl
@[go_sem] theorem k_tfld_218_1 : tfld Tryz.prog 218 1=some 1:=by kernel_rfl
@[go_sem] theorem k_tfld_24_0 : tfld Tryz.prog 24 0=some 0:=by kernel_rfl
@[go_sem] theorem k_tfld_24_1 : tfld Tryz.prog 24 1=some 1:=by kernel_rfl
@[go_sem] theorem k_tfld_243_0 : tfld Tryz.prog 243 0=some 0:=by kernel_rfl
@[go_sem] theorem k_tfld_243_1 : tfld Tryz.prog 243 1=some 12:=by kernel_rfl
@[go_sem] theorem k_tfld_28_0 : tfld Tryz.prog 28 0=some 0:=by kernel_rfl
@[go_sem] theorem k_tfld_28_1 : tfld Tryz.prog 28 1=some 1:=by kernel_rfl
@[go_sem] theorem k_tfld_28_2 : tfld Tryz.prog 28 2=some 2:=by kernel_rfl
@[go_sem] theorem k_tfld_28_3 : tfld Tryz.prog 28 3=some 3:=by kernel_rfl
@[go_sem] theorem k_tfld_28_4 : tfld Tryz.prog 28 4=some 4:=by kernel_rfl
@[go_sem] theorem k_tfld_34_0 : tfld Tryz.prog 34 0=some 0:=by kernel_rfl
@[go_sem] theorem k_tfld_34_1 : tfld Tryz.prog 34 1=some 1:=by kernel_rfl
@[go_sem] theorem k_tfld_34_2 : tfld Tryz.prog 34 2=some 2:=by kernel_rfl
@[go_sem] theorem k_tfld_37_0 : tfld Tryz.prog 37 0=some 0:=by kernel_rfl
@[go_sem] theorem k_tfld_40_0 : tfld Tryz.prog 40 0=some 0:=by kernel_rfl
@[go_sem] theorem k_tfld_40_1 : tfld Tryz.prog 40 1=some 2:=by kernel_rfl
@[go_sem] theorem k_tfld_40_2 : tfld Tryz.prog 40 2=some 3:=by kernel_rfl
@[go_sem] theorem k_tfld_42_0 : tfld Tryz.prog 42 0=some 0:=by kernel_rfl
@[go_sem] theorem k_tfld_42_1 : tfld Tryz.prog 42 1=some 3:=by kernel_rfl
@[go_sem] theorem k_tfld_42_2 : tfld Tryz.prog 42 2=some 4:=by kernel_rfl
@[go_sem] theorem k_tfld_42_3 : tfld Tryz.prog 42 3=some 5:=by kernel_rfl
@[go_sem] theorem k_tfld_42_4 : tfld Tryz.prog 42 4=some 9:=by kernel_rfl
@[go_sem] theorem k_tfld_42_5 : tfld Tryz.prog 42 5=some 10:=by kernel_rfl
@[go_sem] theorem k_tfld_84_0 : tfld Tryz.prog 84 0=some 0:=by kernel_rfl
@[go_sem] theorem k_tfld_93_0 : tfld Tryz.prog 93 0=some 0:=by kernel_rfl
@[go_sem] theorem k_tfld_93_1 : tfld Tryz.prog 93 1=some 1:=by kernel_rfl
@[go_sem] theorem k_tfld_93_2 : tfld Tryz.prog 93 2=some 2:=by kernel_rfl
@[go_sem] theorem k_tfld_93_3 : tfld Tryz.prog 93 3=some 3:=by kernel_rfl
@[go_sem] theorem k_tfld_93_4 : tfld Tryz.prog 93 4=some 4:=by kernel_rfl
@[go_sem] theorem k_tfld2_93_1 : tfld2 Tryz.prog 93 1=some (3,1):=by kernel_rfl
@[go_sem] theorem k_tifc_109 : tifc Tryz.prog 109=some false:=by kernel_rfl
@[go_sem] theorem k_tifc_118 : tifc Tryz.prog 118=some false:=by kernel_rfl
@[go_sem] theorem k_tifc_135 : tifc Tryz.prog 135=some false:=by kernel_rfl
@[go_sem] theorem k_tifc_142 : tifc Tryz.prog 142=some false:=by kernel_rfl
@[go_sem] theorem k_tifc_31 : tifc Tryz.prog 31=some false:=by kernel_rfl
@[go_sem] theorem k_tint_167 : tint Tryz.prog 167=some IntKind.u64:=by kernel_rfl
@[go_sem] theorem k_tint_186 : tint Tryz.prog 186=some IntKind.u32:=by kernel_rfl
@[go_sem] theorem k_tint_2 : tint Tryz.prog 2=some IntKind.i64:=by kernel_rfl
@[go_sem] theorem k_tint_22 : tint Tryz.prog 22=some IntKind.u64:=by kernel_rfl
@[go_sem] theorem k_tint_3 : tint Tryz.prog 3=some IntKind.i64:=by kernel_rfl
@[go_sem] theorem k_tint_5 : tint Tryz.prog 5=some IntKind.u8:=by kernel_rfl
@[go_sem] theorem k_tint_59 : tint Tryz.prog 59=none:=by kernel_rfl
@[go_sem] theorem k_tint_9 : tint Tryz.prog 9=none:=by kernel_rfl
@[go_sem] theorem k_tmapS_181 : tmapS Tryz.prog 181=some 3:=by kernel_rfl
@[go_sem] theorem k_tplace_103_0 : tplace Tryz.prog 103 0=some (0,1):=by kernel_rfl
@[go_sem] theorem k_tplace_103_2 : tplace Tryz.prog 103 2=some (2,1):=by kernel_rfl
@[go_sem] theorem k_tplace_109_0 : tplace Tryz.prog 109 0=some (0,1):=by kernel_rfl
@[go_sem] theorem k_tplace_137_0 : tplace Tryz.prog 137 0=some (0,1):=by kernel_rfl
@[go_sem] theorem k_tplace_137_1 : tplace Tryz.prog 137 1=some (1,1):=by kernel_rfl
@[go_sem] theorem k_tplace_145_0 : tplace Tryz.prog 145 0=some (0,1):=by kernel_rfl
@[go_sem] theorem k_tplace_145_1 : tplace Tryz.prog 145 1=some (1,1):=by kernel_rfl
@[go_sem] theorem k_tplace_145_2 : tplace Tryz.prog 145 2=some (2,1):=by kernel_rfl
@[go_sem] theorem k_tplace_145_3 : tplace Tryz.prog 145 3=some (3,1):=by kernel_rfl
@[go_sem] theorem k_tplace_189_0 : tplace Tryz.prog 189 0=some (0,1):=by kernel_rfl
@[go_sem] theorem k_tplace_189_1 : tplace Tryz.prog 189 1=some (1,1):=by kernel_rfl
@[go_sem] theorem k_tplace_192_0 : tplace Tryz.prog 192 0=some (0,2):=by kernel_rfl
@[go_sem] theorem k_tplace_192_1 : tplace Tryz.prog 192 1=some (2,1):=by kernel_rfl
@[go_sem] theorem k_tplace_196_0 : tplace Tryz.prog 196 0=some (0,1):=by kernel_rfl
@[go_sem] theorem k_tplace_196_1 : tplace Tryz.prog 196 1=some (1,11):=by kernel_rfl
@[go_sem] theorem k_tplace_218_0 : tplace Tryz.prog 218 0=some (0,1):=by kernel_rfl
@[go_sem] theorem k_tplace_218_1 : tplace Tryz.prog 218 1=some (1,1):=by kernel_rfl
@[go_sem] theorem k_tplace_219_0 : tplace Tryz.prog 219 0=some (0,2):=by kernel_rfl
@[go_sem] theorem k_tplace_219_1 : tplace Tryz.prog 219 1=some (2,2):=by kernel_rfl
@[go_sem] theorem k_tplace_219_2 : tplace Tryz.prog 219 2=some (4,2):=by kernel_rfl
@[go_sem] theorem k_tplace_219_3 : tplace Tryz.prog 219 3=some (6,2):=by kernel_rfl
@[go_sem] theorem k_tplace_219_4 : tplace Tryz.prog 219 4=some (8,2):=by kernel_rfl
@[go_sem] theorem k_tplace_24_1 : tplace Tryz.prog 24 1=some (1,1):=by kernel_rfl
@[go_sem] theorem k_tplace_243_0 : tplace Tryz.prog 243 0=some (0,12):=by kernel_rfl
@[go_sem] theorem k_tplace_243_1 : tplace Tryz.prog 243 1=some (12,1):=by kernel_rfl
@[go_sem] theorem k_tplace_28_0 : tplace Tryz.prog 28 0=some (0,1):=by kernel_rfl
@[go_sem] theorem k_tplace_28_1 : tplace Tryz.prog 28 1=some (1,1):=by kernel_rfl
@[go_sem] theorem k_tplace_28_2 : tplace Tryz.prog 28 2=some (2,1):=by kernel_rfl
@[go_sem] theorem k_tplace_34_0 : tplace Tryz.prog 34 0=some (0,1):=by kernel_rfl
@[go_sem] theorem k_tplace_34_1 : tplace Tryz.prog 34 1=some (1,1):=by kernel_rfl
@[go_sem] theorem k_tplace_34_2 : tplace Tryz.prog 34 2=some (2,1):=by kernel_rfl
@[go_sem] theorem k_tplace_37_0 : tplace Tryz.prog 37 0=some (0,1):=by kernel_rfl
@[go_sem] theorem k_tplace_40_0 : tplace Tryz.prog 40 0=some (0,2):=by kernel_rfl
@[go_sem] theorem k_tplace_42_0 : tplace Tryz.prog 42 0=some (0,3):=by kernel_rfl
@[go_sem] theorem k_tplace_42_1 : tplace Tryz.prog 42 1=some (3,1):=by kernel_rfl
@[go_sem] theorem k_tplace_42_2 : tplace Tryz.prog 42 2=some (4,1):=by kernel_rfl
@[go_sem] theorem k_tplace_42_3 : tplace Tryz.prog 42 3=some (5,4):=by kernel_rfl
@[go_sem] theorem k_tplace_93_0 : tplace Tryz.prog 93 0=some (0,1):=by kernel_rfl
@[go_sem] theorem k_tplace_93_1 : tplace Tryz.prog 93 1=some (1,1):=by kernel_rfl
@[go_sem] theorem k_tplace_93_2 : tplace Tryz.prog 93 2=some (2,1):=by kernel_rfl
@[go_sem] theorem k_tplace_93_4 : tplace Tryz.prog 93 4=some (4,1):=by kernel_rfl
@[go_sem] theorem k_tsl_120 : tsl Tryz.prog 120=some 42:=by kernel_rfl
@[go_sem] theorem k_tsl_128 : tsl Tryz.prog 128=some 103:=by kernel_rfl
@[go_sem] theorem k_tsl_143 : tsl Tryz.prog 143=some 35:=by kernel_rfl
@[go_sem] theorem k_tsl_164 : tsl Tryz.prog 164=none:=by kernel_rfl
@[go_sem] theorem k_tsl_167 : tsl Tryz.prog 167=none:=by kernel_rfl
@[go_sem] theorem k_tsl_186 : tsl Tryz.prog 186=none:=by kernel_rfl
@[go_sem] theorem k_tsl_187 : tsl Tryz.prog 187=some 243:=by kernel_rfl
@[go_sem] theorem k_tsl_190 : tsl Tryz.prog 190=some 196:=by kernel_rfl
@[go_sem] theorem k_tsl_2 : tsl Tryz.prog 2=none:=by kernel_rfl
@[go_sem] theorem k_tsl_202 : tsl Tryz.prog 202=none:=by kernel_rfl
@[go_sem] theorem k_tsl_219 : tsl Tryz.prog 219=none:=by kernel_rfl
@[go_sem] theorem k_tsl_22 : tsl Tryz.prog 22=none:=by kernel_rfl
@[go_sem] theorem k_tsl_25 : tsl Tryz.prog 25=some 9:=by kernel_rfl
@[go_sem] theorem k_tsl_251 : tsl Tryz.prog 251=none:=by kernel_rfl
@[go_sem] theorem k_tsl_26 : tsl Tryz.prog 26=some 28:=by kernel_rfl
@[go_sem] theorem k_tsl_291 : tsl Tryz.prog 291=none:=by kernel_rfl
@[go_sem] theorem k_tsl_3 : tsl Tryz.prog 3=none:=by kernel_rfl
@[go_sem] theorem k_tsl_5 : tsl Tryz.prog 5=none:=by kernel_rfl
@[go_sem] theorem k_tsl_59 : tsl Tryz.prog 59=some 5:=by kernel_rfl
@[go_sem] theorem k_tsl_9 : tsl Tryz.prog 9=none:=by kernel_rfl
@[go_sem] theorem k_tsl_96 : tsl Tryz.prog 96=some 3:=by kernel_rfl
@[go_sem] theorem k_tstr_120 : tstr Tryz.prog 120=false:=by kernel_rfl
@[go_sem] theorem k_tstr_128 : tstr Tryz.prog 128=false:=by kernel_rfl
@[go_sem] theorem k_tstr_143 : tstr Tryz.prog 143=false:=by kernel_rfl
@[go_sem] theorem k_tstr_167 : tstr Tryz.prog 167=false:=by kernel_rfl
@[go_sem] theorem k_tstr_186 : tstr Tryz.prog 186=false:=by kernel_rfl
@[go_sem] theorem k_tstr_187 : tstr Tryz.prog 187=false:=by kernel_rfl
@[go_sem] theorem k_tstr_190 : tstr Tryz.prog 190=false:=by kernel_rfl
@[go_sem] theorem k_tstr_2 : tstr Tryz.prog 2=false:=by kernel_rfl
@[go_sem] theorem k_tstr_22 : tstr Tryz.prog 22=false:=by kernel_rfl
@[go_sem] theorem k_tstr_25 : tstr Tryz.prog 25=false:=by kernel_rfl
@[go_sem] theorem k_tstr_26 : tstr Tryz.prog 26=false:=by kernel_rfl
@[go_sem] theorem k_tstr_3 : tstr Tryz.prog 3=false:=by kernel_rfl
@[go_sem] theorem k_tstr_5 : tstr Tryz.prog 5=false:=by kernel_rfl
@[go_sem] theorem k_tstr_59 : tstr Tryz.prog 59=false:=by kernel_rfl
@[go_sem] theorem k_tstr_9 : tstr Tryz.prog 9=true:=by kernel_rfl
@[go_sem] theorem k_tstr_96 : tstr Tryz.prog 96=false:=by kernel_rfl
@[go_sem] theorem k_tsz_103 : tsz Tryz.prog 103=some 3:=by kernel_rfl
@[go_sem] theorem k_tsz_104 : tsz Tryz.prog 104=some 1:=by kernel_rfl
@[go_sem] theorem k_tsz_105 : tsz Tryz.prog 105=some 1:=by kernel_rfl
@[go_sem] theorem k_tsz_109 : tsz Tryz.prog 109=some 1:=by kernel_rfl
@[go_sem] theorem k_tsz_120 : tsz Tryz.prog 120=some 1:=by kernel_rfl
@[go_sem] theorem k_tsz_128 : tsz Tryz.prog 128=some 1:=by kernel_rfl
@[go_sem] theorem k_tsz_135 : tsz Tryz.prog 135=some 1:=by kernel_rfl
@[go_sem] theorem k_tsz_143 : tsz Tryz.prog 143=some 1:=by kernel_rfl
@[go_sem] theorem k_tsz_186 : tsz Tryz.prog 186=some 1:=by kernel_rfl
@[go_sem] theorem k_tsz_187 : tsz Tryz.prog 187=some 1:=by kernel_rfl
@[go_sem] theorem k_tsz_189 : tsz Tryz.prog 189=some 2:=by kernel_rfl
@[go_sem] theorem k_tsz_190 : tsz Tryz.prog 190=some 1:=by kernel_rfl
@[go_sem] theorem k_tsz_196 : tsz Tryz.prog 196=some 12:=by kernel_rfl
@[go_sem] theorem k_tsz_2 : tsz Tryz.prog 2=some 1:=by kernel_rfl
@[go_sem] theorem k_tsz_202 : tsz Tryz.prog 202=some 23:=by kernel_rfl
@[go_sem] theorem k_tsz_218 : tsz Tryz.prog 218=some 2:=by kernel_rfl
@[go_sem] theorem k_tsz_219 : tsz Tryz.prog 219=some 10:=by kernel_rfl
@[go_sem] theorem k_tsz_22 : tsz Tryz.prog 22=some 1:=by kernel_rfl
@[go_sem] theorem k_tsz_24 : tsz Tryz.prog 24=some 2:=by kernel_rfl
@[go_sem] theorem k_tsz_243 : tsz Tryz.prog 243=some 13:=by kernel_rfl
@[go_sem] theorem k_tsz_25 : tsz Tryz.prog 25=some 1:=by kernel_rfl
@[go_sem] theorem k_tsz_253 : tsz Tryz.prog 253=some 1:=by kernel_rfl
@[go_sem] theorem k_tsz_26 : tsz Tryz.prog 26=some 1:=by kernel_rfl
@[go_sem] theorem k_tsz_28 : tsz Tryz.prog 28=some 5:=by kernel_rfl
@[go_sem] theorem k_tsz_3 : tsz Tryz.prog 3=some 1:=by kernel_rfl
@[go_sem] theorem k_tsz_31 : tsz Tryz.prog 31=some 1:=by kernel_rfl
@[go_sem] theorem k_tsz_34 : tsz Tryz.prog 34=some 3:=by kernel_rfl
@[go_sem] theorem k_tsz_35 : tsz Tryz.prog 35=some 1:=by kernel_rfl
@[go_sem] theorem k_tsz_37 : tsz Tryz.prog 37=some 1:=by kernel_rfl
@[go_sem] theorem k_tsz_38 : tsz Tryz.prog 38=some 1:=by kernel_rfl
@[go_sem] theorem k_tsz_40 : tsz Tryz.prog 40=some 4:=by kernel_rfl
@[go_sem] theorem k_tsz_42 : tsz Tryz.prog 42=some 11:=by kernel_rfl
@[go_sem] theorem k_tsz_5 : tsz Tryz.prog 5=some 1:=by kernel_rfl
@[go_sem] theorem k_tsz_50 : tsz Tryz.prog 50=some 1:=by kernel_rfl
@[go_sem] theorem k_tsz_59 : tsz Tryz.prog 59=some 1:=by kernel_rfl
@[go_sem] theorem k_tsz_9 : tsz Tryz.prog 9=some 1:=by kernel_rfl
@[go_sem] theorem k_tsz_93 : tsz Tryz.prog 93=some 5:=by kernel_rfl
@[go_sem] theorem k_tzero_103 : tzero Tryz.prog 103=some [.int .i64 0,.int .i64 0,.str []]:=by kernel_rfl
@[go_sem] theorem k_tzero_109 : tzero Tryz.prog 109=some [.nili]:=by kernel_rfl
@[go_sem] theorem k_tzero_128 : tzero Tryz.prog 128=some [.nils]:=by kernel_rfl
@[go_sem] theorem k_tzero_135 : tzero Tryz.prog 135=some [.nilp]:=by kernel_rfl
@[go_sem] theorem k_tzero_137 : tzero Tryz.prog 137=some [.int .i64 0,.nili]:=by kernel_rfl
@[go_sem] theorem k_tzero_145 : tzero Tryz.prog 145=some [.int .i64 0,.int .i64 0,.nils,.nils]:=by kernel_rfl
@[go_sem] theorem k_tzero_164 : tzero Tryz.prog 164=some [.int .u8 0,.int .u8 0,.int .u8 0,.int .u8 0,.int .u8 0,.int .u8 0,.int .u8 0,.int .u8 0,.int .u8 0,.int .u8 0,.int .u8 0,.int .u8 0,.int .u8 0,.int .u8 0,.int .u8 0,.int .u8 0,.int .u8 0,.int .u8 0,.int .u8 0,.int .u8 0]:=by kernel_rfl
@[go_sem] theorem k_tzero_189 : tzero Tryz.prog 189=some [.int .u32 0,.nils]:=by kernel_rfl
@[go_sem] theorem k_tzero_190 : tzero Tryz.prog 190=some [.nils]:=by kernel_rfl
@[go_sem] theorem k_tzero_192 : tzero Tryz.prog 192=some [.int .u32 0,.nils,.nils]:=by kernel_rfl
@[go_sem] theorem k_tzero_196 : tzero Tryz.prog 196=some [.str [],.int .i64 0,.int .i64 0,.str [],.int .i64 0,.nilp,.int .u64 0,.int .i64 0,.int .i64 0,.nilp,.int .i64 0,.int .i64 0]:=by kernel_rfl
@[go_sem] theorem k_tzero_218 : tzero Tryz.prog 218=some [.int .u8 0,.int .u8 0]:=by kernel_rfl
@[go_sem] theorem k_tzero_219 : tzero Tryz.prog 219=some [.int .u8 0,.int .u8 0,.int .u8 0,.int .u8 0,.int .u8 0,.int .u8 0,.int .u8 0,.int .u8 0,.int .u8 0,.int .u8 0]:=by kernel_rfl
@[go_sem] theorem k_tzero_24 : tzero Tryz.prog 24=some [.int .u64 0,.int .i64 0]:=by kernel_rfl
@[go_sem] theorem k_tzero_243 : tzero Tryz.prog 243=some [.str [],.int .i64 0,.int .i64 0,.str [],.int .i64 0,.nilp,.int .u64 0,.int .i64 0,.int .i64 0,.nilp,.int .i64 0,.int .i64 0,.nilp]:=by kernel_rfl
@[go_sem] theorem k_tzero_251 : tzero Tryz.prog 251=some [.int .u8 0,.int .u8 0,.int .u8 0,.int .u8 0,.int .u8 0,.int .u8 0,.int .u8 0,.int .u8 0]:=by kernel_rfl
@[go_sem] theorem k_tzero_28 : tzero Tryz.prog 28=some [.int .i64 0,.int .i64 0,.str [],.nils,.nils]:=by kernel_rfl
@[go_sem] theorem k_tzero_3 : tzero Tryz.prog 3=some [.int .i64 0]:=by kernel_rfl
@[go_sem] theorem k_tzero_31 : tzero Tryz.prog 31=some [.int .i64 0]:=by kernel_rfl
@[go_sem] theorem k_tzero_34 : tzero Tryz.prog 34=some [.int .i64 0,.int .i64 0,.str []]:=by kernel_rfl
@[go_sem] theorem k_tzero_35 : tzero Tryz.prog 35=some [.nilp]:=by kernel_rfl
@[go_sem] theorem k_tzero_37 : tzero Tryz.prog 37=some [.nilp]:=by kernel_rfl
@[go_sem] theorem k_tzero_40 : tzero Tryz.prog 40=some [.int .u64 0,.int .i64 0,.int .i64 0,.nilp]:=by kernel_rfl
@[go_sem] theorem k_tzero_42 : tzero Tryz.prog 42=some [.int .i64 0,.int .i64 0,.str [],.int .i64 0,.nilp,.int .u64 0,.int .i64 0,.int .i64 0,.nilp,.int .i64 0,.int .i64 0]:=by kernel_rfl
@[go_sem] theorem k_tzero_5 : tzero Tryz.prog 5=some [.int .u8 0]:=by kernel_rfl
@[go_sem] theorem k_tzero_84 : tzero Tryz.prog 84=some [.int .i64 0]:=by kernel_rfl
@[go_sem] theorem k_tzero_9 : tzero Tryz.prog 9=some [.str []]:=by kernel_rfl
@[go_sem] theorem k_tzero_93 : tzero Tryz.prog 93=some [.int .i64 0,.int .i64 0,.int .i64 0,.int .i64 0,.str []]:=by kernel_rfl
@[go_sem] theorem k_tzero1_3 : tzero1 Tryz.prog 3=some (.int .i64 0):=by kernel_rfl
@[go_sem] theorem k_und_120 : Tryz.prog.underlying 120=some (.slice 42):=by kernel_rfl
@[go_sem] theorem k_und_128 : Tryz.prog.underlying 128=some (.slice 103):=by kernel_rfl
@[go_sem] theorem k_und_135 : Tryz.prog.underlying 135=some (.pointer 137):=by kernel_rfl
@[go_sem] theorem k_und_143 : Tryz.prog.underlying 143=some (.slice 35):=by kernel_rfl
@[go_sem] theorem k_und_167 : Tryz.prog.underlying 167=some (.int .u64):=by kernel_rfl
@[go_sem] theorem k_und_181 : Tryz.prog.underlying 181=some (.map 9 3):=by kernel_rfl
@[go_sem] theorem k_und_186 : Tryz.prog.underlying 186=some (.int .u32):=by kernel_rfl
@[go_sem] theorem k_und_187 : Tryz.prog.underlying 187=some (.slice 243):=by kernel_rfl
@[go_sem] theorem k_und_190 : Tryz.prog.underlying 190=some (.slice 196):=by kernel_rfl
@[go_sem] theorem k_und_2 : Tryz.prog.underlying 2=some (.int .i64):=by kernel_rfl
@[go_sem] theorem k_und_20 : Tryz.prog.underlying 20=some (.interface #[]):=by kernel_rfl
@[go_sem] theorem k_und_22 : Tryz.prog.underlying 22=some (.int .u64):=by kernel_rfl
@[go_sem] theorem k_und_25 : Tryz.prog.underlying 25=some (.slice 9):=by kernel_rfl
@[go_sem] theorem k_und_26 : Tryz.prog.underlying 26=some (.slice 28):=by kernel_rfl
@[go_sem] theorem k_und_3 : Tryz.prog.underlying 3=some (.int .i64):=by kernel_rfl
@[go_sem] theorem k_und_34 : Tryz.prog.underlying 34=some (.struct #[{ name := "Kind",type:=3,offset:=0,embedded:=false,tag := "",pkgPath := "",byteOffset:=0 },{ name := "Int",type:=2,offset:=1,embedded:=false,tag := "",pkgPath := "",byteOffset:=8 },{ name := "Text",type:=9,offset:=2,embedded:=false,tag := "",pkgPath := "",byteOffset:=16 }]):=by kernel_rfl
@[go_sem] theorem k_und_35 : Tryz.prog.underlying 35=some (.pointer 145):=by kernel_rfl
@[go_sem] theorem k_und_38 : Tryz.prog.underlying 38=some (.pointer 192):=by kernel_rfl
@[go_sem] theorem k_und_4 : Tryz.prog.underlying 4=some .bool:=by kernel_rfl
@[go_sem] theorem k_und_5 : Tryz.prog.underlying 5=some (.int .u8):=by kernel_rfl
@[go_sem] theorem k_und_50 : Tryz.prog.underlying 50=some (.interface #[("Error",57)]):=by kernel_rfl
@[go_sem] theorem k_und_59 : Tryz.prog.underlying 59=some (.slice 5):=by kernel_rfl
@[go_sem] theorem k_und_9 : Tryz.prog.underlying 9=some .string:=by kernel_rfl
@[go_sem] theorem k_und_96 : Tryz.prog.underlying 96=some (.slice 3):=by kernel_rfl
@[go_sem] theorem k_bod_56 : bodied Tryz.prog 56=true:=by kernel_rfl
end Go.V
namespace Go.V
open Go.Proofs
set_option maxRecDepth 100000
def lab (f : FuncId) : Bool:=[17,20,34,37,48,53,162,164].contains f
theorem mix : Tryz.prog.follows .mixedOrders=true:=by kernel_rfl
def aL {α : Type} (a : Array α) : List α:=a.toList
def apL {α : Type} : List α→List α→List α
 | [],l=>l
 | x::r,l=>x::apL r l
theorem aL_lit {α : Type} {l : List α} : aL l.toArray=l:=rfl
theorem aL_app {α : Type} {a b : Array α} : aL (a++b)=apL (aL a) (aL b):=by
 have : ∀ (l m : List α),l++m=apL l m:=fun l m=>by induction l<;>simp_all [apL]
 simp [aL,this]
def oN : Option Nat→Nat
 | some n=>n
 | none=>0
def dA : List Oper→Nat→Nat
 | [],_=>0
 | o::_,0=>oN o.dst
 | _::r,n+1=>dA r n
def gT (os : List Oper) : Option (Nat × Bool)→Option (Nat × Bool)
 | none=>none
 | some (j,b)=>some (dA os j,b)
def mO (os : List Oper) : List Oper→List VO
 | []=>[]
 | o::r=>⟨o.dst,o.op,o.type,gT os o.guard⟩::mO os r
def dO (os : List Oper) (p : PL) : Nat→List Oper→DO
 | _,[]=>⟨0,none,.nilCheck (.tmp 0),0,none,false,[],false⟩
 | 0,o::_=>⟨p.ix,o.dst,o.op,o.type,gT os o.guard,p.eff,p.chk,p.save⟩
 | n+1,_::r=>dO os p n r
def pO (os : List Oper) : List PL→List DO
 | []=>[]
 | p::r=>dO os p p.ix os::pO os r
def cH (N : Nat) : Code→List (List PL)→VCode × List (List PL)
 | .exit id,h=>(.exit id,h)
 | .goto l,h=>(.goto l,h)
 | .ret,h=>(.ret,h)
 | .seq a b,h=>(.seq (cH N a h).1 (cH N b (cH N a h).2).1,(cH N b (cH N a h).2).2)
 | .cond c a b,h=>(.cond c (cH N a h).1 (cH N b (cH N a h).2).1,(cH N b (cH N a h).2).2)
 | .block id b,h=>(.block id (cH N b h).1,(cH N b h).2)
 | .loop b,h=>(.loop (cH N b h).1,(cH N b h).2)
 | .scope b,h=>(.scope (cH N b h).1,(cH N b h).2)
 | .region _ ops false,h=>(.reg (mO (aL ops) (aL ops)),h)
 | .region _ ops true,p::h=>(.draw (pO (aL ops) p),h)
 | .rangeFunc g ps x y,h=>(.rangeF g (aL ps) N (cH N x h).1 (cH N y (cH N x h).2).1,(cH N y (cH N x h).2).2)
 | _,h=>(.skip,h)
def oC : Option Code→Code
 | some c=>c
 | none=>.skip
def CH (f : Func) (h : List (List PL)) : VCode:=(cH f.ntmps (oC f.body) h).1
attribute [go_sem] aL_lit aL_app apL oN dA gT mO dO pO cH oC CH
end Go.V
