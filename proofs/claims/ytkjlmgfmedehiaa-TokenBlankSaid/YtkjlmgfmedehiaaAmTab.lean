/- The table of the translation's types. Printed by gen_tab.py. -/
import Derived.Test.YtkjlmgfmedehiaaChecked
import Derived.Test.YtkjlmgfmedehiaaAmJ
namespace Go.Proofs.Ytkjlmgfmedehiaa
open Go Go.Am Go.Proofs
noncomputable def T : Tab := Tab.eqs [27, 33, 46] (Tab.node (Tab.node (Tab.node (Tab.node (Tab.node (Tab.node (Tab.node (Tab.node Tab.leaf 0 Try.t0 Tab.leaf) 1 Try.t1 Tab.leaf) 2 Try.t2 (Tab.node Tab.leaf 3 Try.t3 Tab.leaf)) 4 Try.t4 (Tab.node (Tab.node (Tab.node Tab.leaf 5 Try.t5 Tab.leaf) 6 Try.t6 Tab.leaf) 7 Try.t7 (Tab.node Tab.leaf 8 Try.t8 Tab.leaf))) 9 Try.t9 (Tab.node (Tab.node (Tab.node (Tab.node Tab.leaf 10 Try.t10 Tab.leaf) 11 Try.t11 Tab.leaf) 12 Try.t12 (Tab.node Tab.leaf 13 Try.t13 Tab.leaf)) 14 Try.t14 (Tab.node (Tab.node Tab.leaf 15 Try.t15 Tab.leaf) 16 Try.t16 (Tab.node Tab.leaf 17 Try.t17 Tab.leaf)))) 18 Try.t18 (Tab.node (Tab.node (Tab.node (Tab.node (Tab.node Tab.leaf 19 Try.t19 Tab.leaf) 20 Try.t20 Tab.leaf) 21 Try.t21 (Tab.node Tab.leaf 22 Try.t22 Tab.leaf)) 23 Try.t23 (Tab.node (Tab.node Tab.leaf 24 Try.t24 Tab.leaf) 25 Try.t25 (Tab.node Tab.leaf 26 Try.t26 Tab.leaf))) 27 Try.t27 (Tab.node (Tab.node (Tab.node (Tab.node Tab.leaf 28 Try.t28 Tab.leaf) 29 Try.t29 Tab.leaf) 30 Try.t30 (Tab.node Tab.leaf 31 Try.t31 Tab.leaf)) 32 Try.t32 (Tab.node (Tab.node Tab.leaf 33 Try.t33 Tab.leaf) 34 Try.t34 (Tab.node Tab.leaf 35 Try.t35 Tab.leaf))))) 36 Try.t36 (Tab.node (Tab.node (Tab.node (Tab.node (Tab.node (Tab.node Tab.leaf 37 Try.t37 Tab.leaf) 38 Try.t38 Tab.leaf) 39 Try.t39 (Tab.node Tab.leaf 40 Try.t40 Tab.leaf)) 41 Try.t41 (Tab.node (Tab.node Tab.leaf 42 Try.t42 Tab.leaf) 43 Try.t43 (Tab.node Tab.leaf 44 Try.t44 Tab.leaf))) 45 Try.t45 (Tab.node (Tab.node (Tab.node (Tab.node Tab.leaf 46 Try.t46 Tab.leaf) 47 Try.t47 Tab.leaf) 48 Try.t48 (Tab.node Tab.leaf 49 Try.t49 Tab.leaf)) 50 Try.t50 (Tab.node (Tab.node Tab.leaf 51 Try.t51 Tab.leaf) 52 Try.t52 (Tab.node Tab.leaf 53 Try.t53 Tab.leaf)))) 54 Try.t54 (Tab.node (Tab.node (Tab.node (Tab.node (Tab.node Tab.leaf 55 Try.t55 Tab.leaf) 56 Try.t56 Tab.leaf) 57 Try.t57 (Tab.node Tab.leaf 58 Try.t58 Tab.leaf)) 59 Try.t59 (Tab.node (Tab.node Tab.leaf 60 Try.t60 Tab.leaf) 61 Try.t61 (Tab.node Tab.leaf 62 Try.t62 Tab.leaf))) 63 Try.t63 (Tab.node (Tab.node (Tab.node (Tab.node Tab.leaf 64 Try.t64 Tab.leaf) 65 Try.t65 Tab.leaf) 66 Try.t66 (Tab.node Tab.leaf 67 Try.t67 Tab.leaf)) 68 Try.t68 (Tab.node (Tab.node Tab.leaf 69 Try.t69 Tab.leaf) 70 Try.t70 (Tab.node Tab.leaf 71 Try.t71 Tab.leaf)))))) 72 Try.t72 (Tab.node (Tab.node (Tab.node (Tab.node (Tab.node (Tab.node (Tab.node Tab.leaf 73 Try.t73 Tab.leaf) 74 Try.t74 Tab.leaf) 75 Try.t75 (Tab.node Tab.leaf 76 Try.t76 Tab.leaf)) 77 Try.t77 (Tab.node (Tab.node Tab.leaf 78 Try.t78 Tab.leaf) 79 Try.t79 (Tab.node Tab.leaf 80 Try.t80 Tab.leaf))) 81 Try.t81 (Tab.node (Tab.node (Tab.node (Tab.node Tab.leaf 82 Try.t82 Tab.leaf) 83 Try.t83 Tab.leaf) 84 Try.t84 (Tab.node Tab.leaf 85 Try.t85 Tab.leaf)) 86 Try.t86 (Tab.node (Tab.node Tab.leaf 87 Try.t87 Tab.leaf) 88 Try.t88 (Tab.node Tab.leaf 89 Try.t89 Tab.leaf)))) 90 Try.t90 (Tab.node (Tab.node (Tab.node (Tab.node (Tab.node Tab.leaf 91 Try.t91 Tab.leaf) 92 Try.t92 Tab.leaf) 93 Try.t93 (Tab.node Tab.leaf 94 Try.t94 Tab.leaf)) 95 Try.t95 (Tab.node (Tab.node Tab.leaf 96 Try.t96 Tab.leaf) 97 Try.t97 (Tab.node Tab.leaf 98 Try.t98 Tab.leaf))) 99 Try.t99 (Tab.node (Tab.node (Tab.node (Tab.node Tab.leaf 100 Try.t100 Tab.leaf) 101 Try.t101 Tab.leaf) 102 Try.t102 (Tab.node Tab.leaf 103 Try.t103 Tab.leaf)) 104 Try.t104 (Tab.node (Tab.node Tab.leaf 105 Try.t105 Tab.leaf) 106 Try.t106 (Tab.node Tab.leaf 107 Try.t107 Tab.leaf))))) 108 Try.t108 (Tab.node (Tab.node (Tab.node (Tab.node (Tab.node (Tab.node Tab.leaf 109 Try.t109 Tab.leaf) 110 Try.t110 Tab.leaf) 111 Try.t111 (Tab.node Tab.leaf 112 Try.t112 Tab.leaf)) 113 Try.t113 (Tab.node (Tab.node Tab.leaf 114 Try.t114 Tab.leaf) 115 Try.t115 (Tab.node Tab.leaf 116 Try.t116 Tab.leaf))) 117 Try.t117 (Tab.node (Tab.node (Tab.node (Tab.node Tab.leaf 118 Try.t118 Tab.leaf) 119 Try.t119 Tab.leaf) 120 Try.t120 (Tab.node Tab.leaf 121 Try.t121 Tab.leaf)) 122 Try.t122 (Tab.node (Tab.node Tab.leaf 123 Try.t123 Tab.leaf) 124 Try.t124 (Tab.node Tab.leaf 125 Try.t125 Tab.leaf)))) 126 Try.t126 (Tab.node (Tab.node (Tab.node (Tab.node (Tab.node Tab.leaf 127 Try.t127 Tab.leaf) 128 Try.t128 Tab.leaf) 129 Try.t129 (Tab.node Tab.leaf 130 Try.t130 Tab.leaf)) 131 Try.t131 (Tab.node (Tab.node Tab.leaf 132 Try.t132 Tab.leaf) 133 Try.t133 (Tab.node Tab.leaf 134 Try.t134 Tab.leaf))) 135 Try.t135 (Tab.node (Tab.node (Tab.node (Tab.node Tab.leaf 136 Try.t136 Tab.leaf) 137 Try.t137 Tab.leaf) 138 Try.t138 (Tab.node Tab.leaf 139 Try.t139 Tab.leaf)) 140 Try.t140 (Tab.node (Tab.node Tab.leaf 141 Try.t141 Tab.leaf) 142 Try.t142 (Tab.node Tab.leaf 143 Try.t143 Tab.leaf)))))))
theorem h0 : Try.prog.info? 0 = some Try.t0 := by kernel_rfl
theorem h1 : Try.prog.info? 1 = some Try.t1 := by kernel_rfl
theorem h2 : Try.prog.info? 2 = some Try.t2 := by kernel_rfl
theorem h3 : Try.prog.info? 3 = some Try.t3 := by kernel_rfl
theorem h4 : Try.prog.info? 4 = some Try.t4 := by kernel_rfl
theorem h5 : Try.prog.info? 5 = some Try.t5 := by kernel_rfl
theorem h6 : Try.prog.info? 6 = some Try.t6 := by kernel_rfl
theorem h7 : Try.prog.info? 7 = some Try.t7 := by kernel_rfl
theorem h8 : Try.prog.info? 8 = some Try.t8 := by kernel_rfl
theorem h9 : Try.prog.info? 9 = some Try.t9 := by kernel_rfl
theorem h10 : Try.prog.info? 10 = some Try.t10 := by kernel_rfl
theorem h11 : Try.prog.info? 11 = some Try.t11 := by kernel_rfl
theorem h12 : Try.prog.info? 12 = some Try.t12 := by kernel_rfl
theorem h13 : Try.prog.info? 13 = some Try.t13 := by kernel_rfl
theorem h14 : Try.prog.info? 14 = some Try.t14 := by kernel_rfl
theorem h15 : Try.prog.info? 15 = some Try.t15 := by kernel_rfl
theorem h16 : Try.prog.info? 16 = some Try.t16 := by kernel_rfl
theorem h17 : Try.prog.info? 17 = some Try.t17 := by kernel_rfl
theorem h18 : Try.prog.info? 18 = some Try.t18 := by kernel_rfl
theorem h19 : Try.prog.info? 19 = some Try.t19 := by kernel_rfl
theorem h20 : Try.prog.info? 20 = some Try.t20 := by kernel_rfl
theorem h21 : Try.prog.info? 21 = some Try.t21 := by kernel_rfl
theorem h22 : Try.prog.info? 22 = some Try.t22 := by kernel_rfl
theorem h23 : Try.prog.info? 23 = some Try.t23 := by kernel_rfl
theorem h24 : Try.prog.info? 24 = some Try.t24 := by kernel_rfl
theorem h25 : Try.prog.info? 25 = some Try.t25 := by kernel_rfl
theorem h26 : Try.prog.info? 26 = some Try.t26 := by kernel_rfl
theorem h27 : Try.prog.info? 27 = some Try.t27 := by kernel_rfl
theorem h28 : Try.prog.info? 28 = some Try.t28 := by kernel_rfl
theorem h29 : Try.prog.info? 29 = some Try.t29 := by kernel_rfl
theorem h30 : Try.prog.info? 30 = some Try.t30 := by kernel_rfl
theorem h31 : Try.prog.info? 31 = some Try.t31 := by kernel_rfl
theorem h32 : Try.prog.info? 32 = some Try.t32 := by kernel_rfl
theorem h33 : Try.prog.info? 33 = some Try.t33 := by kernel_rfl
theorem h34 : Try.prog.info? 34 = some Try.t34 := by kernel_rfl
theorem h35 : Try.prog.info? 35 = some Try.t35 := by kernel_rfl
theorem h36 : Try.prog.info? 36 = some Try.t36 := by kernel_rfl
theorem h37 : Try.prog.info? 37 = some Try.t37 := by kernel_rfl
theorem h38 : Try.prog.info? 38 = some Try.t38 := by kernel_rfl
theorem h39 : Try.prog.info? 39 = some Try.t39 := by kernel_rfl
theorem h40 : Try.prog.info? 40 = some Try.t40 := by kernel_rfl
theorem h41 : Try.prog.info? 41 = some Try.t41 := by kernel_rfl
theorem h42 : Try.prog.info? 42 = some Try.t42 := by kernel_rfl
theorem h43 : Try.prog.info? 43 = some Try.t43 := by kernel_rfl
theorem h44 : Try.prog.info? 44 = some Try.t44 := by kernel_rfl
theorem h45 : Try.prog.info? 45 = some Try.t45 := by kernel_rfl
theorem h46 : Try.prog.info? 46 = some Try.t46 := by kernel_rfl
theorem h47 : Try.prog.info? 47 = some Try.t47 := by kernel_rfl
theorem h48 : Try.prog.info? 48 = some Try.t48 := by kernel_rfl
theorem h49 : Try.prog.info? 49 = some Try.t49 := by kernel_rfl
theorem h50 : Try.prog.info? 50 = some Try.t50 := by kernel_rfl
theorem h51 : Try.prog.info? 51 = some Try.t51 := by kernel_rfl
theorem h52 : Try.prog.info? 52 = some Try.t52 := by kernel_rfl
theorem h53 : Try.prog.info? 53 = some Try.t53 := by kernel_rfl
theorem h54 : Try.prog.info? 54 = some Try.t54 := by kernel_rfl
theorem h55 : Try.prog.info? 55 = some Try.t55 := by kernel_rfl
theorem h56 : Try.prog.info? 56 = some Try.t56 := by kernel_rfl
theorem h57 : Try.prog.info? 57 = some Try.t57 := by kernel_rfl
theorem h58 : Try.prog.info? 58 = some Try.t58 := by kernel_rfl
theorem h59 : Try.prog.info? 59 = some Try.t59 := by kernel_rfl
theorem h60 : Try.prog.info? 60 = some Try.t60 := by kernel_rfl
theorem h61 : Try.prog.info? 61 = some Try.t61 := by kernel_rfl
theorem h62 : Try.prog.info? 62 = some Try.t62 := by kernel_rfl
theorem h63 : Try.prog.info? 63 = some Try.t63 := by kernel_rfl
theorem h64 : Try.prog.info? 64 = some Try.t64 := by kernel_rfl
theorem h65 : Try.prog.info? 65 = some Try.t65 := by kernel_rfl
theorem h66 : Try.prog.info? 66 = some Try.t66 := by kernel_rfl
theorem h67 : Try.prog.info? 67 = some Try.t67 := by kernel_rfl
theorem h68 : Try.prog.info? 68 = some Try.t68 := by kernel_rfl
theorem h69 : Try.prog.info? 69 = some Try.t69 := by kernel_rfl
theorem h70 : Try.prog.info? 70 = some Try.t70 := by kernel_rfl
theorem h71 : Try.prog.info? 71 = some Try.t71 := by kernel_rfl
theorem h72 : Try.prog.info? 72 = some Try.t72 := by kernel_rfl
theorem h73 : Try.prog.info? 73 = some Try.t73 := by kernel_rfl
theorem h74 : Try.prog.info? 74 = some Try.t74 := by kernel_rfl
theorem h75 : Try.prog.info? 75 = some Try.t75 := by kernel_rfl
theorem h76 : Try.prog.info? 76 = some Try.t76 := by kernel_rfl
theorem h77 : Try.prog.info? 77 = some Try.t77 := by kernel_rfl
theorem h78 : Try.prog.info? 78 = some Try.t78 := by kernel_rfl
theorem h79 : Try.prog.info? 79 = some Try.t79 := by kernel_rfl
theorem h80 : Try.prog.info? 80 = some Try.t80 := by kernel_rfl
theorem h81 : Try.prog.info? 81 = some Try.t81 := by kernel_rfl
theorem h82 : Try.prog.info? 82 = some Try.t82 := by kernel_rfl
theorem h83 : Try.prog.info? 83 = some Try.t83 := by kernel_rfl
theorem h84 : Try.prog.info? 84 = some Try.t84 := by kernel_rfl
theorem h85 : Try.prog.info? 85 = some Try.t85 := by kernel_rfl
theorem h86 : Try.prog.info? 86 = some Try.t86 := by kernel_rfl
theorem h87 : Try.prog.info? 87 = some Try.t87 := by kernel_rfl
theorem h88 : Try.prog.info? 88 = some Try.t88 := by kernel_rfl
theorem h89 : Try.prog.info? 89 = some Try.t89 := by kernel_rfl
theorem h90 : Try.prog.info? 90 = some Try.t90 := by kernel_rfl
theorem h91 : Try.prog.info? 91 = some Try.t91 := by kernel_rfl
theorem h92 : Try.prog.info? 92 = some Try.t92 := by kernel_rfl
theorem h93 : Try.prog.info? 93 = some Try.t93 := by kernel_rfl
theorem h94 : Try.prog.info? 94 = some Try.t94 := by kernel_rfl
theorem h95 : Try.prog.info? 95 = some Try.t95 := by kernel_rfl
theorem h96 : Try.prog.info? 96 = some Try.t96 := by kernel_rfl
theorem h97 : Try.prog.info? 97 = some Try.t97 := by kernel_rfl
theorem h98 : Try.prog.info? 98 = some Try.t98 := by kernel_rfl
theorem h99 : Try.prog.info? 99 = some Try.t99 := by kernel_rfl
theorem h100 : Try.prog.info? 100 = some Try.t100 := by kernel_rfl
theorem h101 : Try.prog.info? 101 = some Try.t101 := by kernel_rfl
theorem h102 : Try.prog.info? 102 = some Try.t102 := by kernel_rfl
theorem h103 : Try.prog.info? 103 = some Try.t103 := by kernel_rfl
theorem h104 : Try.prog.info? 104 = some Try.t104 := by kernel_rfl
theorem h105 : Try.prog.info? 105 = some Try.t105 := by kernel_rfl
theorem h106 : Try.prog.info? 106 = some Try.t106 := by kernel_rfl
theorem h107 : Try.prog.info? 107 = some Try.t107 := by kernel_rfl
theorem h108 : Try.prog.info? 108 = some Try.t108 := by kernel_rfl
theorem h109 : Try.prog.info? 109 = some Try.t109 := by kernel_rfl
theorem h110 : Try.prog.info? 110 = some Try.t110 := by kernel_rfl
theorem h111 : Try.prog.info? 111 = some Try.t111 := by kernel_rfl
theorem h112 : Try.prog.info? 112 = some Try.t112 := by kernel_rfl
theorem h113 : Try.prog.info? 113 = some Try.t113 := by kernel_rfl
theorem h114 : Try.prog.info? 114 = some Try.t114 := by kernel_rfl
theorem h115 : Try.prog.info? 115 = some Try.t115 := by kernel_rfl
theorem h116 : Try.prog.info? 116 = some Try.t116 := by kernel_rfl
theorem h117 : Try.prog.info? 117 = some Try.t117 := by kernel_rfl
theorem h118 : Try.prog.info? 118 = some Try.t118 := by kernel_rfl
theorem h119 : Try.prog.info? 119 = some Try.t119 := by kernel_rfl
theorem h120 : Try.prog.info? 120 = some Try.t120 := by kernel_rfl
theorem h121 : Try.prog.info? 121 = some Try.t121 := by kernel_rfl
theorem h122 : Try.prog.info? 122 = some Try.t122 := by kernel_rfl
theorem h123 : Try.prog.info? 123 = some Try.t123 := by kernel_rfl
theorem h124 : Try.prog.info? 124 = some Try.t124 := by kernel_rfl
theorem h125 : Try.prog.info? 125 = some Try.t125 := by kernel_rfl
theorem h126 : Try.prog.info? 126 = some Try.t126 := by kernel_rfl
theorem h127 : Try.prog.info? 127 = some Try.t127 := by kernel_rfl
theorem h128 : Try.prog.info? 128 = some Try.t128 := by kernel_rfl
theorem h129 : Try.prog.info? 129 = some Try.t129 := by kernel_rfl
theorem h130 : Try.prog.info? 130 = some Try.t130 := by kernel_rfl
theorem h131 : Try.prog.info? 131 = some Try.t131 := by kernel_rfl
theorem h132 : Try.prog.info? 132 = some Try.t132 := by kernel_rfl
theorem h133 : Try.prog.info? 133 = some Try.t133 := by kernel_rfl
theorem h134 : Try.prog.info? 134 = some Try.t134 := by kernel_rfl
theorem h135 : Try.prog.info? 135 = some Try.t135 := by kernel_rfl
theorem h136 : Try.prog.info? 136 = some Try.t136 := by kernel_rfl
theorem h137 : Try.prog.info? 137 = some Try.t137 := by kernel_rfl
theorem h138 : Try.prog.info? 138 = some Try.t138 := by kernel_rfl
theorem h139 : Try.prog.info? 139 = some Try.t139 := by kernel_rfl
theorem h140 : Try.prog.info? 140 = some Try.t140 := by kernel_rfl
theorem h141 : Try.prog.info? 141 = some Try.t141 := by kernel_rfl
theorem h142 : Try.prog.info? 142 = some Try.t142 := by kernel_rfl
theorem h143 : Try.prog.info? 143 = some Try.t143 := by kernel_rfl
theorem q27 : eqTypeOk Try.prog 27 = true := by kernel_rfl
theorem q33 : eqTypeOk Try.prog 33 = true := by kernel_rfl
theorem q46 : eqTypeOk Try.prog 46 = true := by kernel_rfl
theorem eqsOk : ∀ k ∈ [27, 33, 46], eqTypeOk Try.prog k = true := List.forall_mem_cons.2 ⟨q27, List.forall_mem_cons.2 ⟨q33, List.forall_mem_cons.2 ⟨q46, List.forall_mem_nil _⟩⟩⟩
set_option maxRecDepth 100000 in
theorem fits : T.fits Try.prog := ⟨eqsOk, ⟨⟨⟨⟨⟨⟨⟨⟨trivial, h0, trivial⟩, h1, trivial⟩, h2, ⟨trivial, h3, trivial⟩⟩, h4, ⟨⟨⟨trivial, h5, trivial⟩, h6, trivial⟩, h7, ⟨trivial, h8, trivial⟩⟩⟩, h9, ⟨⟨⟨⟨trivial, h10, trivial⟩, h11, trivial⟩, h12, ⟨trivial, h13, trivial⟩⟩, h14, ⟨⟨trivial, h15, trivial⟩, h16, ⟨trivial, h17, trivial⟩⟩⟩⟩, h18, ⟨⟨⟨⟨⟨trivial, h19, trivial⟩, h20, trivial⟩, h21, ⟨trivial, h22, trivial⟩⟩, h23, ⟨⟨trivial, h24, trivial⟩, h25, ⟨trivial, h26, trivial⟩⟩⟩, h27, ⟨⟨⟨⟨trivial, h28, trivial⟩, h29, trivial⟩, h30, ⟨trivial, h31, trivial⟩⟩, h32, ⟨⟨trivial, h33, trivial⟩, h34, ⟨trivial, h35, trivial⟩⟩⟩⟩⟩, h36, ⟨⟨⟨⟨⟨⟨trivial, h37, trivial⟩, h38, trivial⟩, h39, ⟨trivial, h40, trivial⟩⟩, h41, ⟨⟨trivial, h42, trivial⟩, h43, ⟨trivial, h44, trivial⟩⟩⟩, h45, ⟨⟨⟨⟨trivial, h46, trivial⟩, h47, trivial⟩, h48, ⟨trivial, h49, trivial⟩⟩, h50, ⟨⟨trivial, h51, trivial⟩, h52, ⟨trivial, h53, trivial⟩⟩⟩⟩, h54, ⟨⟨⟨⟨⟨trivial, h55, trivial⟩, h56, trivial⟩, h57, ⟨trivial, h58, trivial⟩⟩, h59, ⟨⟨trivial, h60, trivial⟩, h61, ⟨trivial, h62, trivial⟩⟩⟩, h63, ⟨⟨⟨⟨trivial, h64, trivial⟩, h65, trivial⟩, h66, ⟨trivial, h67, trivial⟩⟩, h68, ⟨⟨trivial, h69, trivial⟩, h70, ⟨trivial, h71, trivial⟩⟩⟩⟩⟩⟩, h72, ⟨⟨⟨⟨⟨⟨⟨trivial, h73, trivial⟩, h74, trivial⟩, h75, ⟨trivial, h76, trivial⟩⟩, h77, ⟨⟨trivial, h78, trivial⟩, h79, ⟨trivial, h80, trivial⟩⟩⟩, h81, ⟨⟨⟨⟨trivial, h82, trivial⟩, h83, trivial⟩, h84, ⟨trivial, h85, trivial⟩⟩, h86, ⟨⟨trivial, h87, trivial⟩, h88, ⟨trivial, h89, trivial⟩⟩⟩⟩, h90, ⟨⟨⟨⟨⟨trivial, h91, trivial⟩, h92, trivial⟩, h93, ⟨trivial, h94, trivial⟩⟩, h95, ⟨⟨trivial, h96, trivial⟩, h97, ⟨trivial, h98, trivial⟩⟩⟩, h99, ⟨⟨⟨⟨trivial, h100, trivial⟩, h101, trivial⟩, h102, ⟨trivial, h103, trivial⟩⟩, h104, ⟨⟨trivial, h105, trivial⟩, h106, ⟨trivial, h107, trivial⟩⟩⟩⟩⟩, h108, ⟨⟨⟨⟨⟨⟨trivial, h109, trivial⟩, h110, trivial⟩, h111, ⟨trivial, h112, trivial⟩⟩, h113, ⟨⟨trivial, h114, trivial⟩, h115, ⟨trivial, h116, trivial⟩⟩⟩, h117, ⟨⟨⟨⟨trivial, h118, trivial⟩, h119, trivial⟩, h120, ⟨trivial, h121, trivial⟩⟩, h122, ⟨⟨trivial, h123, trivial⟩, h124, ⟨trivial, h125, trivial⟩⟩⟩⟩, h126, ⟨⟨⟨⟨⟨trivial, h127, trivial⟩, h128, trivial⟩, h129, ⟨trivial, h130, trivial⟩⟩, h131, ⟨⟨trivial, h132, trivial⟩, h133, ⟨trivial, h134, trivial⟩⟩⟩, h135, ⟨⟨⟨⟨trivial, h136, trivial⟩, h137, trivial⟩, h138, ⟨trivial, h139, trivial⟩⟩, h140, ⟨⟨trivial, h141, trivial⟩, h142, ⟨trivial, h143, trivial⟩⟩⟩⟩⟩⟩⟩⟩
theorem mixed : Try.prog.follows .mixedOrders = true := by kernel_rfl
noncomputable def cx (ar : List (Nat × Bool)) (n : Nat) : Cx := { P := Try.prog, T := T, ar := ar, n := n }
/-- package-level variables of the library's that hold some number -/
class GVals where
  m0 : Int
def globT [GVals] : Nat → Option (List D)
  | 0 => some [.sc (.int .i64 GVals.m0)]
  | _ => none
instance [GVals] : HasGlob := ⟨globT⟩
end Go.Proofs.Ytkjlmgfmedehiaa
