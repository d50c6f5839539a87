import Derived.Test.YtibcdikfbhmheaaQT07
import Derived.Test.YtibcdikfbhmheaaB12
set_option linter.unusedSimpArgs false
set_option linter.unusedVariables false
set_option maxRecDepth 100000
set_option maxHeartbeats 4000000
namespace Go.Proofs.Ytibcdikfbhmheaa
open Go Go.Conc Go.Proofs
open Go.ConcN (sumTo upd sumTo_upd upd_ne upd_same)
set_option linter.unusedVariables false
def S20 (g o i n gd p h q len rc : Nat) (a nn od : Int) (w : World) : Prop:=w.cell? ⟨g,o + i,none⟩ = some (.slice (some ⟨h,q,none⟩) len rc) ∧ w.cell? ⟨gd,i,none⟩ = some (.int .i64 (p : Int)) ∧ w.cell? ⟨h,q + p * 3,none⟩ = some (.int .i64 a) ∧ w.cell? ⟨h,q + p * 3 + 1,none⟩ = some (.int .i64 nn) ∧ w.cell? ⟨h,q + p * 3 + 2,none⟩ = some (.int .i64 od)
theorem S20.keep {g o i n gd p h q len rc : Nat} {a nn od : Int} {w w' : World} (hS : S20 g o i n gd p h q len rc a nn od w) (k : ∀ b,b < w.heap.size → w'.heap[b]? = w.heap[b]?) : S20 g o i n gd p h q len rc a nn od w':=by
 obtain ⟨h1,h2,h3,h4,h5⟩:=hS
 exact ⟨cell_keep h1 (k _ (cell_lt h1)),cell_keep h2 (k _ (cell_lt h2)),cell_keep h3 (k _ (cell_lt h3)),cell_keep h4 (k _ (cell_lt h4)),cell_keep h5 (k _ (cell_lt h5))⟩
@[go_sem] theorem build67w (x y : Int) (w : World) : (Instr.build 67 #[(0,.int .i64 x),(1,.int .i64 y)]).run Try.prog w = .ok (.agg #[.int .i64 x,.int .i64 y,.int .i64 0,.bool false]) w:=run_build w 67 _ _ (by kernel_rfl)
section
variable {V : World} {Z : Cuts} {Post : Value → World → Prop} {h q n lc pl pc Rn gd dc gb bc m vc k i b18 b19 p g o len rc : Nat} {la pa va r : Option Addr} {ov lv : Value} {v a nn od : Int} {T : Array Value} {kt : List Item} {cs0 : List Frame}
theorem z_r20 (hn : norm V = V) (hi : i < n) (hp : p < len) (hla : la = some ⟨g,o,none⟩) (hS0 : S20 g o i n gd p h q len rc a nn od V) (hT : Fg 161 [(0,.slice la n lc),(9,ov),(10,lv),(11,.int .i64 v),(12,.slice (some ⟨gd,0,none⟩) n dc),(13,.slice (some ⟨gb,0,none⟩) n bc),(14,.slice va m vc),(16,.int .i64 (k : Int)),(17,.int .i64 (i : Int))] T)
   (K : ∀ T' V',Fg 161 [(0,.slice la n lc),(9,ov),(10,lv),(11,.int .i64 v),(12,.slice (some ⟨gd,0,none⟩) n dc),(13,.slice (some ⟨gb,0,none⟩) n bc),(14,.slice va m vc),(16,.int .i64 (k : Int)),(17,.int .i64 (i : Int)),(18,.pointer (some ⟨V.heap.size,0,none⟩))] T' → norm V' = V' → Kp V V' → V'.heap.size = V.heap.size + 1 → V'.heap[V.heap.size]? = some (.cells #[.int .i64 a,.int .i64 nn,.int .i64 od] 57 (0,0)) → To0 Try.prog Post Z V' (G ((base 31).at ⟨T',[]⟩ kt) cs0)) :
   To0 Try.prog Post Z V (G ((base 31).at ⟨T,[]⟩ (.code zr20 :: kt)) cs0):=by
 refine To0.walk (will_code (L:=Lone) (R:=fun aa V'=>(Fg 161 [(0,.slice la n lc),(9,ov),(10,lv),(11,.int .i64 v),(12,.slice (some ⟨gd,0,none⟩) n dc),(13,.slice (some ⟨gb,0,none⟩) n bc),(14,.slice va m vc),(16,.int .i64 (k : Int)),(17,.int .i64 (i : Int)),(18,.pointer (some ⟨V.heap.size,0,none⟩))] aa.tmps) ∧ norm V' = V' ∧ Kp V V' ∧ V'.heap.size = V.heap.size + 1 ∧ V'.heap[V.heap.size]? = some (.cells #[.int .i64 a,.int .i64 nn,.int .i64 od] 57 (0,0))) calm rfl ⟨_,Try.func31⟩ rfl (by kernel_rfl) (fun τ=>?_) fun a' V' ⟨gs,e1,e2,e3,e4⟩ ha'=>Will.stop ?_)
 · clear K
   subst hla
   obtain ⟨hs,h0,h9,h10,h11,h12,h13,h14,h16,h17,-⟩:=hT
   obtain ⟨f,hf,hT⟩:=array161f T hs
   rw [hT]
   simp only [hf _ _ h0,hf _ _ h9,hf _ _ h10,hf _ _ h11,hf _ _ h12,hf _ _ h13,hf _ _ h14,hf _ _ h16,hf _ _ h17]
   clear hf hs h0 h9 h10 h11 h12 h13 h14 h16 h17
   subst hT
   simp only [zr20,zb20,zb19,zb17,zb14,zLB,zy,zx,Z31,nva,nvb,nvk,nvl,nvd,Try.f31,Option.getD_some]
   refine wp_region_held (S:=S20 g o i n gd p h q len rc a nn od) (by kernel_rfl) ?_
   simp only [List.size_toArray,List.length_cons,List.length_nil,Nat.reduceAdd,Nat.zero_add,Array.replicate_succ,Array.replicate_zero,List.push_toArray,List.nil_append,List.cons_append]
   generalize hw0 : ({ re V τ 0 with drawn:=(re V τ 0).drawn + 1 } : World) = w0
   have hh : w0.heap = V.heap:=by rw [← hw0]; rfl
   have hk0 : ∀ b,b < V.heap.size → w0.heap[b]? = V.heap[b]?:=fun b hb=>by rw [hh]
   have hS : S20 g o i n gd p h q len rc a nn od w0:=hS0.keep hk0
   have q1 : ¬ ((i : Int) < 0):=by omega
   have q2 : ¬ ((n : Int) ≤ (i : Int)):=by omega
   have q3 : ¬ ((p : Int) < 0):=by omega
   have q4 : ¬ ((len : Int) ≤ (p : Int)):=by omega
   clear hw0 hS0
   refine wpAnyH_take (i:=0) (v:=.slice (some ⟨g,o,none⟩) n lc) rfl (by kernel_rfl) (by kernel_rfl) (by kernel_rfl) (fun _ _ _ h=>h) (Or.inl ⟨by rfl,fun w5 hS5=>by go_simp⟩) hS ?_
   walk_nrm
   refine wpAnyH_take (i:=1) (v:=.int .i64 (i : Int)) rfl (by kernel_rfl) (by kernel_rfl) (by kernel_rfl) (fun _ _ _ h=>h) (Or.inl ⟨by rfl,fun w5 hS5=>by go_simp⟩) hS ?_
   walk_nrm
   refine wpAnyH_take (i:=2) (v:=.pointer (some ⟨g,o + i,none⟩)) rfl (by kernel_rfl) (by kernel_rfl) (by kernel_rfl) (fun _ _ _ h=>h) (Or.inl ⟨by rfl,fun w5 hS5=>by go_simp⟩) hS ?_
   walk_nrm
   refine wpAnyH_take (i:=3) (v:=.slice (some ⟨h,q,none⟩) len rc) rfl (by kernel_rfl) (by kernel_rfl) (by kernel_rfl) (fun _ _ _ h=>h) (Or.inl ⟨by rfl,fun w5 hS5=>by obtain ⟨x1,x2,x3,x4,x5⟩:=hS5; go_simp⟩) hS ?_
   walk_nrm
   refine wpAnyH_take (i:=4) (v:=.slice (some ⟨gd,0,none⟩) n dc) rfl (by kernel_rfl) (by kernel_rfl) (by kernel_rfl) (fun _ _ _ h=>h) (Or.inl ⟨by rfl,fun w5 hS5=>by go_simp⟩) hS ?_
   walk_nrm
   refine wpAnyH_take (i:=5) (v:=.int .i64 (i : Int)) rfl (by kernel_rfl) (by kernel_rfl) (by kernel_rfl) (fun _ _ _ h=>h) (Or.inl ⟨by rfl,fun w5 hS5=>by go_simp⟩) hS ?_
   walk_nrm
   refine wpAnyH_take (i:=6) (v:=.pointer (some ⟨gd,i,none⟩)) rfl (by kernel_rfl) (by kernel_rfl) (by kernel_rfl) (fun _ _ _ h=>h) (Or.inl ⟨by rfl,fun w5 hS5=>by go_simp⟩) hS ?_
   walk_nrm
   refine wpAnyH_take (i:=7) (v:=.int .i64 (p : Int)) rfl (by kernel_rfl) (by kernel_rfl) (by kernel_rfl) (fun _ _ _ h=>h) (Or.inl ⟨by rfl,fun w5 hS5=>by obtain ⟨x1,x2,x3,x4,x5⟩:=hS5; go_simp⟩) hS ?_
   walk_nrm
   refine wpAnyH_take (i:=8) (v:=.pointer (some ⟨h,q + p * 3,none⟩)) rfl (by kernel_rfl) (by kernel_rfl) (by kernel_rfl) (fun _ _ _ h=>h) (Or.inl ⟨by rfl,fun w5 hS5=>by go_simp⟩) hS ?_
   walk_nrm
   refine wpAnyH_take (i:=9) (v:=.agg #[.int .i64 a,.int .i64 nn,.int .i64 od]) rfl (by kernel_rfl) (by kernel_rfl) (by kernel_rfl) (fun _ _ _ h=>h) (Or.inl ⟨by rfl,fun w5 hS5=>by obtain ⟨x1,x2,x3,x4,x5⟩:=hS5; go_simp⟩) hS ?_
   walk_nrm
   obtain ⟨w1,hw1⟩ : ∃ w1,w1 = w0.alloc (.cells #[.int .i64 0,.int .i64 0,.int .i64 0] 57):=⟨_,rfl⟩
   have s1 : w1.heap.size = V.heap.size + 1:=by rw [hw1,alloc_size,hh]
   have e2 : ∀ b,b < V.heap.size → w1.heap[b]? = V.heap[b]?:=fun b hb=>by rw [hw1,alloc_get,hh,if_neg (by omega)]
   have eN : w1.heap[V.heap.size]? = some (.cells #[.int .i64 0,.int .i64 0,.int .i64 0] 57):=by rw [hw1,alloc_get,hh,if_pos rfl]
   have hS1 : S20 g o i n gd p h q len rc a nn od w1:=hS.keep fun b hb=>by rw [hh] at hb; rw [e2 b hb,hk0 b hb]
   have f0 : w1.cell? ⟨V.heap.size,0,none⟩ = some (.int .i64 0):=cell_of eN (by simp)
   have f1 : w1.cell? ⟨V.heap.size,1,none⟩ = some (.int .i64 0):=cell_of eN (by simp)
   have f1b : w1.cell? ⟨V.heap.size,2,none⟩ = some (.int .i64 0):=cell_of eN (by simp)
   have f2 : w1.frozen? ⟨V.heap.size,0,none⟩ = false:=by simp [World.frozen?,eN]
   have f3 : w1.frozen? ⟨V.heap.size,1,none⟩ = false:=by simp [World.frozen?,eN]
   have f4 : w1.frozen? ⟨V.heap.size,2,none⟩ = false:=by simp [World.frozen?,eN]
   obtain ⟨w2,hw2⟩ : ∃ w2,w2 = ((w1.setCell ⟨V.heap.size,0,none⟩ (.int .i64 a)).setCell ⟨V.heap.size,1,none⟩ (.int .i64 nn)).setCell ⟨V.heap.size,2,none⟩ (.int .i64 od):=⟨_,rfl⟩
   have e3 : ∀ b,b < V.heap.size → w2.heap[b]? = V.heap[b]?:=fun b hb=>by rw [hw2,setCell_heap,if_neg (by show b ≠ V.heap.size; omega),setCell_heap,if_neg (by show b ≠ V.heap.size; omega),setCell_heap,if_neg (by show b ≠ V.heap.size; omega)]; exact e2 b hb
   have e4 : w2.heap[V.heap.size]? = some (.cells #[.int .i64 a,.int .i64 nn,.int .i64 od] 57 (0,0)):=by
     rw [hw2,setCell_heap,if_pos rfl,setCell_heap,if_pos rfl,setCell_heap,if_pos rfl,eN]
     simp
   have s2 : w2.heap.size = V.heap.size + 1:=by rw [hw2]; simpa [World.setCell] using s1
   have hS2 : S20 g o i n gd p h q len rc a nn od w2:=hS.keep fun b hb=>by rw [hh] at hb; rw [e3 b hb,hk0 b hb]
   have hnw : w0.heap.size = V.heap.size:=by rw [hh]
   refine wpAnyH_all (rs:=[10]) (by kernel_rfl) (by simp) (fun j hj=>?_)
   obtain rfl : j = 10:=by simpa using hj
   refine wpOp_val (v:=.pointer (some ⟨V.heap.size,0,none⟩)) (w':=w1) rfl rfl (by go_simp) ⟨hS1,?_⟩
   walk_nrm
   refine wpAnyH_all (rs:=[11]) (by kernel_rfl) (by simp) (fun j hj=>?_)
   obtain rfl : j = 11:=by simpa using hj
   refine wpOp_skip (w':=w2) rfl rfl (by go_simp) ⟨hS2,?_⟩
   walk_nrm
   exact wpAnyH_done (by kernel_rfl) ⟨⟨⟨by simp,rfl,rfl,rfl,rfl,rfl,rfl,rfl,rfl,rfl,rfl,trivial⟩,rfl,⟨by show V.heap.size ≤ w2.heap.size; omega,fun b hb=>e3 b hb⟩,s2,e4⟩,rfl⟩ _
 · obtain ⟨T',df⟩:=a'
   simp only at ha' gs
   subst ha'
   exact K T' V' gs e1 e2 e3 e4
theorem z_r21 (hn : norm V = V) (hi : i < n) (hd : V.cell? ⟨gd,i,none⟩ = some (.int .i64 (p : Int))) (hT : Fg 161 [(0,.slice la n lc),(9,ov),(10,lv),(11,.int .i64 v),(12,.slice (some ⟨gd,0,none⟩) n dc),(13,.slice (some ⟨gb,0,none⟩) n bc),(14,.slice va m vc),(16,.int .i64 (k : Int)),(17,.int .i64 (i : Int)),(18,.pointer (some ⟨b18,0,none⟩))] T)
   (K : ∀ T' V',Fg 161 [(0,.slice la n lc),(9,ov),(10,lv),(11,.int .i64 v),(12,.slice (some ⟨gd,0,none⟩) n dc),(13,.slice (some ⟨gb,0,none⟩) n bc),(14,.slice va m vc),(16,.int .i64 (k : Int)),(17,.int .i64 (i : Int)),(18,.pointer (some ⟨b18,0,none⟩)),(19,.pointer (some ⟨V.heap.size,0,none⟩))] T' → norm V' = V' → Kp V V' → V'.heap.size = V.heap.size + 1 → V'.heap[V.heap.size]? = some (.cells #[.int .i64 (i : Int),.int .i64 (p : Int),.int .i64 0,.bool false] 67 (0,0)) → To0 Try.prog Post Z V' (G ((base 31).at ⟨T',[]⟩ kt) cs0)) :
   To0 Try.prog Post Z V (G ((base 31).at ⟨T,[]⟩ (.code zr21 :: kt)) cs0):=by
 have hK0:=K
 clear K
 have q1 : ¬ ((i : Int) < 0):=by omega
 have q2 : ¬ ((n : Int) ≤ (i : Int)):=by omega
 have d1 : ∀ τ,(re V τ 0).cell? ⟨gd,i,none⟩ = some (.int .i64 (p : Int)):=fun τ=>hd
 obtain ⟨hs,h0,h9,h10,h11,h12,h13,h14,h16,h17,h18,-⟩:=hT
 obtain ⟨f,hf,hT⟩:=array161f T hs
 rw [hT]
 simp only [hf _ _ h0,hf _ _ h9,hf _ _ h10,hf _ _ h11,hf _ _ h12,hf _ _ h13,hf _ _ h14,hf _ _ h16,hf _ _ h17,hf _ _ h18]
 clear hf hs h0 h9 h10 h11 h12 h13 h14 h16 h17 h18
 subst hT
 generalize hX0 : zr21 = X0
 simp only [zr21,zb20,zb19,zb17,zb14,zLB,zy,zx,Z31,nva,nvb,nvk,nvl,nvd,Try.f31,Option.getD_some] at hX0
 subst hX0
 obtain ⟨K,hK,hV,key,yek⟩:=kKV (L:=Lone) (J:=fun g=>To0 Try.prog Post Z V g) mu_to0 (muv_to0 hn)
 refine key _ ?_
 repeat (first|(with_reducible first|refine mu_seq hK ?_|refine mu_skip hK ?_|(refine mu_region_end hK ?_;try subst hkk)|refine mu_block hK ?_|refine mu_inBlock hK ?_|refine mu_ret hK ?_|refine mu_end hK ?_)|refine mu_exit hK rfl ?_|(with_reducible refine mu_regionH hK (fun kk hkk=>?_);simp only [List.size_toArray,List.length_cons,List.length_nil,Nat.reduceAdd,Nat.zero_add,List.range,List.range.loop])|(with_reducible refine mu_cf hK ?_ ?_;(· first|(walk_nrm;done)|(simp [Act.eval];done)))|(with_reducible refine mu_ct hK ?_ ?_;(· first|(walk_nrm;done)|(simp [Act.eval];done)))|(refine mu_unwanted hK rfl rfl ?_;walk_nrm)|(refine muv_val hV rfl (by first|exact .inl rfl|exact .inr rfl) rfl (by kernel_rfl) (fun J hJ=>?_);go_simp;with_reducible refine hJ _ ?_;clear hJ J;walk_nrm))
 refine yek _ ?_
 clear hK hV key yek K
 clear d1
 have hnA : norm (V.alloc (.cells #[.int .i64 0,.int .i64 0,.int .i64 0,.bool false] 67)) = (V.alloc (.cells #[.int .i64 0,.int .i64 0,.int .i64 0,.bool false] 67)):=norm_al hn _
 refine mua_put (L:=Lone) (v:=.pointer (some ⟨V.heap.size,0,none⟩)) (mua_to0 hnA) (K:=fun g=>To0 Try.prog Post Z V g) (K':=fun g=>To0 Try.prog Post Z (V.alloc (.cells #[.int .i64 0,.int .i64 0,.int .i64 0,.bool false] 67)) g) rfl (.inl rfl) rfl (by kernel_rfl) (fun τ=>?_) ?_
 · go_simp
   first | exact ⟨by first | rfl | assumption | (simp only [re]; omega),rfl⟩ | rfl | (simp; done)
 have eVA : (V.alloc (.cells #[.int .i64 0,.int .i64 0,.int .i64 0,.bool false] 67)).heap[V.heap.size]? = some (.cells #[.int .i64 0,.int .i64 0,.int .i64 0,.bool false] 67 (0,0)):=by rw [al_get,if_pos rfl]
 have sVA : (V.alloc (.cells #[.int .i64 0,.int .i64 0,.int .i64 0,.bool false] 67)).heap.size = V.heap.size + 1:=by rw [al_size]
 have kVA : Kp V (V.alloc (.cells #[.int .i64 0,.int .i64 0,.int .i64 0,.bool false] 67)):=⟨by rw [sVA]; omega,fun b hb=>by rw [al_get,if_neg (by omega)]⟩
 generalize (V.alloc (.cells #[.int .i64 0,.int .i64 0,.int .i64 0,.bool false] 67)) = VA at *
 walk_nrm
 generalize hb9 : V.heap.size = b9 at eVA sVA kVA hK0 ⊢
 try walk_nrm
 have r0 : ∀ τ,(re VA τ 0).cell? ⟨b9,0,none⟩ = some (.int .i64 0):=fun τ=>cell_of eVA (by simp)
 have z0 : ∀ τ,(re VA τ 0).frozen? ⟨b9,0,none⟩ = false:=fun τ=>by simp [World.frozen?,re,eVA]
 have r1 : ∀ τ,(re VA τ 0).cell? ⟨b9,1,none⟩ = some (.int .i64 0):=fun τ=>cell_of eVA (by simp)
 have z1 : ∀ τ,(re VA τ 0).frozen? ⟨b9,1,none⟩ = false:=fun τ=>by simp [World.frozen?,re,eVA]
 have r2 : ∀ τ,(re VA τ 0).cell? ⟨b9,2,none⟩ = some (.int .i64 0):=fun τ=>cell_of eVA (by simp)
 have z2 : ∀ τ,(re VA τ 0).frozen? ⟨b9,2,none⟩ = false:=fun τ=>by simp [World.frozen?,re,eVA]
 have r3 : ∀ τ,(re VA τ 0).cell? ⟨b9,3,none⟩ = some (.bool false):=fun τ=>cell_of eVA (by simp)
 have z3 : ∀ τ,(re VA τ 0).frozen? ⟨b9,3,none⟩ = false:=fun τ=>by simp [World.frozen?,re,eVA]
 have hnS : norm ((((VA.setCell ⟨b9,0,none⟩ (.int .i64 (i : Int))).setCell ⟨b9,1,none⟩ (.int .i64 (p : Int))).setCell ⟨b9,2,none⟩ (.int .i64 0)).setCell ⟨b9,3,none⟩ (.bool false)) = ((((VA.setCell ⟨b9,0,none⟩ (.int .i64 (i : Int))).setCell ⟨b9,1,none⟩ (.int .i64 (p : Int))).setCell ⟨b9,2,none⟩ (.int .i64 0)).setCell ⟨b9,3,none⟩ (.bool false)):=norm_set (norm_set (norm_set (norm_set hnA _ _) _ _) _ _) _ _
 refine mus_put (L:=Lone) (mus_to0 hnS) (K:=fun g=>To0 Try.prog Post Z VA g) (K':=fun g=>To0 Try.prog Post Z ((((VA.setCell ⟨b9,0,none⟩ (.int .i64 (i : Int))).setCell ⟨b9,1,none⟩ (.int .i64 (p : Int))).setCell ⟨b9,2,none⟩ (.int .i64 0)).setCell ⟨b9,3,none⟩ (.bool false)) g) rfl (.inl rfl) rfl (by kernel_rfl) (fun τ=>?_) ?_
 · go_simp
   try rfl
 have kS : ∀ b,b ≠ b9 → ((((VA.setCell ⟨b9,0,none⟩ (.int .i64 (i : Int))).setCell ⟨b9,1,none⟩ (.int .i64 (p : Int))).setCell ⟨b9,2,none⟩ (.int .i64 0)).setCell ⟨b9,3,none⟩ (.bool false)).heap[b]? = VA.heap[b]?:=fun b hb=>by rw [setCell_heap,if_neg hb,setCell_heap,if_neg hb,setCell_heap,if_neg hb,setCell_heap,if_neg hb]
 have eS : ((((VA.setCell ⟨b9,0,none⟩ (.int .i64 (i : Int))).setCell ⟨b9,1,none⟩ (.int .i64 (p : Int))).setCell ⟨b9,2,none⟩ (.int .i64 0)).setCell ⟨b9,3,none⟩ (.bool false)).heap[b9]? = some (.cells #[.int .i64 (i : Int),.int .i64 (p : Int),.int .i64 0,.bool false] 67 (0,0)):=by
   rw [setCell_heap,if_pos rfl,setCell_heap,if_pos rfl,setCell_heap,if_pos rfl,setCell_heap,if_pos rfl,eVA]
   simp
 have sS : ((((VA.setCell ⟨b9,0,none⟩ (.int .i64 (i : Int))).setCell ⟨b9,1,none⟩ (.int .i64 (p : Int))).setCell ⟨b9,2,none⟩ (.int .i64 0)).setCell ⟨b9,3,none⟩ (.bool false)).heap.size = VA.heap.size:=by simp [World.setCell]
 generalize ((((VA.setCell ⟨b9,0,none⟩ (.int .i64 (i : Int))).setCell ⟨b9,1,none⟩ (.int .i64 (p : Int))).setCell ⟨b9,2,none⟩ (.int .i64 0)).setCell ⟨b9,3,none⟩ (.bool false)) = VS at *
 walk_nrm
 refine mu_region_end mu_to0 ?_
 try subst hkk
 refine hK0 _ VS ⟨by simp,rfl,rfl,rfl,rfl,rfl,rfl,rfl,rfl,rfl,rfl,rfl,trivial⟩ hnS ⟨by omega,fun b hb=>(kS b (by omega)).trans (kVA.keep b hb)⟩ (by omega) eS
theorem z_r30 {ok : Bool} (hn : norm V = V) (h19b : V.heap[b19]? = some (.cells #[.int .i64 (i : Int),.int .i64 (p : Int),.int .i64 nn,.bool ok] 67 (0,0))) {m3 : Nat} {xs : List Value} (hrow : V.ownsRow 0 67 4 lv m3 xs) (hm : m3 < 900000000) (hT : Fg 161 [(0,.slice la n lc),(9,ov),(10,lv),(11,.int .i64 v),(12,.slice (some ⟨gd,0,none⟩) n dc),(13,.slice (some ⟨gb,0,none⟩) n bc),(14,.slice va m vc),(16,.int .i64 (k : Int)),(17,.int .i64 (i : Int)),(18,.pointer (some ⟨b18,0,none⟩)),(19,.pointer (some ⟨b19,0,none⟩))] T)
   (K : ∀ T' V' lv2,Fg 161 [(0,.slice la n lc),(9,ov),(10,lv2),(11,.int .i64 v),(12,.slice (some ⟨gd,0,none⟩) n dc),(13,.slice (some ⟨gb,0,none⟩) n bc),(14,.slice va m vc),(16,.int .i64 (k : Int)),(17,.int .i64 (i : Int))] T' → norm V' = V' → V'.ownsRow 0 67 4 lv2 (m3 + 1) (xs ++ [.int .i64 (i : Int),.int .i64 (p : Int),.int .i64 nn,.bool ok]) → V.heap.size ≤ V'.heap.size → (∀ b,b < V.heap.size → lv.ownBlock ≠ some b → V'.heap[b]? = V.heap[b]?) → (∀ b,lv2.ownBlock = some b → lv.ownBlock = some b ∨ V.heap.size ≤ b) → To0 Try.prog Post Z V' (G ((base 31).at ⟨T',[]⟩ kt) cs0)) :
   To0 Try.prog Post Z V (G ((base 31).at ⟨T,[]⟩ (.code zr30 :: kt)) cs0):=by
 have hK0:=K
 clear K
 obtain ⟨sx,sn,sc,rfl⟩:=slice_ofA hrow
 obtain ⟨hs,h0,h9,h10,h11,h12,h13,h14,h16,h17,h18,h19,-⟩:=hT
 obtain ⟨f,hf,hT⟩:=array161f T hs
 rw [hT]
 simp only [hf _ _ h0,hf _ _ h9,hf _ _ h10,hf _ _ h11,hf _ _ h12,hf _ _ h13,hf _ _ h14,hf _ _ h16,hf _ _ h17,hf _ _ h18,hf _ _ h19]
 clear hf hs h0 h9 h10 h11 h12 h13 h14 h16 h17 h18 h19
 subst hT
 generalize hX0 : zr30 = X0
 simp only [zr30,zb29,zb22,zb20,zb19,zb17,zb14,zLB,zy,zx,Z31,nva,nvb,nvk,nvl,nvd,Try.f31,Option.getD_some] at hX0
 subst hX0
 have r0 : ∀ τ,(re V τ 0).cell? ⟨b19,0,none⟩ = some (.int .i64 (i : Int)):=fun τ=>cell_of h19b (by simp)
 have r1 : ∀ τ,(re V τ 0).cell? ⟨b19,1,none⟩ = some (.int .i64 (p : Int)):=fun τ=>cell_of h19b (by simp)
 have r2 : ∀ τ,(re V τ 0).cell? ⟨b19,2,none⟩ = some (.int .i64 nn):=fun τ=>cell_of h19b (by simp)
 have r3 : ∀ τ,(re V τ 0).cell? ⟨b19,3,none⟩ = some (.bool ok):=fun τ=>cell_of h19b (by simp)
 obtain ⟨K,hK,hV,key,yek⟩:=kKV (L:=Lone) (J:=fun g=>To0 Try.prog Post Z V g) mu_to0 (muv_to0 hn)
 refine key _ ?_
 repeat (first|(with_reducible first|refine mu_seq hK ?_|refine mu_skip hK ?_|(refine mu_region_end hK ?_;try subst hkk)|refine mu_block hK ?_|refine mu_inBlock hK ?_|refine mu_ret hK ?_|refine mu_end hK ?_)|refine mu_exit hK rfl ?_|(with_reducible refine mu_regionH hK (fun kk hkk=>?_);simp only [List.size_toArray,List.length_cons,List.length_nil,Nat.reduceAdd,Nat.zero_add,List.range,List.range.loop])|(with_reducible refine mu_cf hK ?_ ?_;(· first|(walk_nrm;done)|(simp [Act.eval];done)))|(with_reducible refine mu_ct hK ?_ ?_;(· first|(walk_nrm;done)|(simp [Act.eval];done)))|(refine mu_unwanted hK rfl rfl ?_;walk_nrm)|(refine muv_val hV rfl (by first|exact .inl rfl|exact .inr rfl) rfl (by kernel_rfl) (fun J hJ=>?_);go_simp;with_reducible refine hJ _ ?_;clear hJ J;walk_nrm))
 refine yek _ ?_
 clear hK hV key yek K
 clear r0 r1 r2 r3
 have hnA : norm (V.alloc (.cells #[.int .i64 (i : Int),.int .i64 (p : Int),.int .i64 nn,.bool ok] 67)) = (V.alloc (.cells #[.int .i64 (i : Int),.int .i64 (p : Int),.int .i64 nn,.bool ok] 67)):=norm_al hn _
 refine mua_put (L:=Lone) (v:=.slice (some ⟨V.heap.size,0,none⟩) 1 1) (mua_to0 hnA) (K:=fun g=>To0 Try.prog Post Z V g) (K':=fun g=>To0 Try.prog Post Z (V.alloc (.cells #[.int .i64 (i : Int),.int .i64 (p : Int),.int .i64 nn,.bool ok] 67)) g) rfl (.inl rfl) rfl (by kernel_rfl) (fun τ=>?_) ?_
 · go_simp
   first | exact ⟨by first | rfl | assumption | (simp only [re]; omega),rfl⟩ | rfl | (simp; done)
 have eVA : (V.alloc (.cells #[.int .i64 (i : Int),.int .i64 (p : Int),.int .i64 nn,.bool ok] 67)).heap[V.heap.size]? = some (.cells #[.int .i64 (i : Int),.int .i64 (p : Int),.int .i64 nn,.bool ok] 67 (0,0)):=by rw [al_get,if_pos rfl]
 have sVA : (V.alloc (.cells #[.int .i64 (i : Int),.int .i64 (p : Int),.int .i64 nn,.bool ok] 67)).heap.size = V.heap.size + 1:=by rw [al_size]
 have kVA : Kp V (V.alloc (.cells #[.int .i64 (i : Int),.int .i64 (p : Int),.int .i64 nn,.bool ok] 67)):=⟨by rw [sVA]; omega,fun b hb=>by rw [al_get,if_neg (by omega)]⟩
 generalize (V.alloc (.cells #[.int .i64 (i : Int),.int .i64 (p : Int),.int .i64 nn,.bool ok] 67)) = VA at *
 walk_nrm
 have rowA : VA.ownsRow 0 67 4 (.slice sx sn sc) m3 xs:=row_keep hrow fun b hb=>kVA.keep b (row_at hrow hb)
 have litA : VA.ownsRow 0 67 4 (.slice (some ⟨V.heap.size,0,none⟩) 1 1) 1 [.int .i64 (i : Int),.int .i64 (p : Int),.int .i64 nn,.bool ok]:=⟨rfl,.inr ⟨V.heap.size,1,#[.int .i64 (i : Int),.int .i64 (p : Int),.int .i64 nn,.bool ok],rfl,Nat.zero_le _,eVA,Nat.le_refl _,by simp [maxLen],rfl,rfl⟩⟩
 refine to0_ex (L:=Lone) rfl rfl rfl (by kernel_rfl) (fun v W=>W.ownsRow 0 67 4 v (m3 + 1) (xs ++ [.int .i64 (i : Int),.int .i64 (p : Int),.int .i64 nn,.bool ok]) ∧ Grw VA W (.slice sx sn sc) v) (fun τ=>?_) fun v2 V2 ⟨s1,s2,s3,s4⟩ hn2=>?_
 · obtain ⟨v',w',a1,a2,a3⟩:=app_row (V:=re VA τ 0) (t:=65) (e:=67) (z:=.agg #[.int .i64 0,.int .i64 0,.int .i64 0,.bool false]) (B:=32) Try.underlying65 (by kernel_rfl) (by rfl) (by decide) (by decide) (owns_re rowA) (owns_re litA) (by simp [Value.oneCell']) (by omega)
   exact ⟨v',w',run_app_opm rfl rfl rfl a1,a2,a3⟩
 walk_nrm
 obtain ⟨K,hK,hV,key,yek⟩:=kKV (L:=Lone) (J:=fun g=>To0 Try.prog Post Z V2 g) mu_to0 (muv_to0 hn2)
 refine key _ ?_
 repeat (first|(with_reducible first|refine mu_seq hK ?_|refine mu_skip hK ?_|(refine mu_region_end hK ?_;try subst hkk)|refine mu_block hK ?_|refine mu_inBlock hK ?_|refine mu_ret hK ?_|refine mu_end hK ?_)|refine mu_exit hK rfl ?_|(with_reducible refine mu_regionH hK (fun kk hkk=>?_);simp only [List.size_toArray,List.length_cons,List.length_nil,Nat.reduceAdd,Nat.zero_add,List.range,List.range.loop])|(with_reducible refine mu_cf hK ?_ ?_;(· first|(walk_nrm;done)|(simp [Act.eval];done)))|(with_reducible refine mu_ct hK ?_ ?_;(· first|(walk_nrm;done)|(simp [Act.eval];done)))|(refine mu_unwanted hK rfl rfl ?_;walk_nrm)|(refine muv_val hV rfl (by first|exact .inl rfl|exact .inr rfl) rfl (by kernel_rfl) (fun J hJ=>?_);go_simp;with_reducible refine hJ _ ?_;clear hJ J;walk_nrm))
 refine yek _ ?_
 clear hK hV key yek K
 try subst hkk
 refine hK0 _ V2 v2 ⟨by simp,rfl,rfl,rfl,rfl,rfl,rfl,rfl,rfl,rfl,trivial⟩ hn2 s1 (by have:=kVA.size; omega) (fun b hb hno=>?_) fun b hb=>?_
 · rw [s3 b (by omega) hno]
   exact kVA.keep b hb
 · rcases s4 with h | h
   · exact .inl (h ▸ hb)
   · rw [h] at hb
     have:=Option.some.inj hb
     right; omega
theorem z_out {b₀ : Frame} {a₀ : Act} {ops₀ : Array Oper} {i₀ : Nat} {rest₀ : List Nat} {k₀ : List Item} (hn : norm V = V) (hT : Fg 161 [(9,ov),(10,lv),(11,.int .i64 v)] T)
   (K : To0 Try.prog Post Z V (G (b₀.at (a₀.put ((ops₀[i₀]?).bind (·.dst)) (.tuple #[ov,lv,.int .i64 v])) (.inRegion ops₀ rest₀ :: k₀)) cs0)) :
   To0 Try.prog Post Z V (G ((base 31).at ⟨T,[]⟩ [.code zr35,.code .ret]) (b₀.at a₀ (.inRegion ops₀ (i₀ :: rest₀) :: k₀) :: cs0)):=by
 have hK0:=K
 clear K
 obtain ⟨hs,h9,h10,h11,-⟩:=hT
 obtain ⟨f,hf,hT⟩:=array161f T hs
 rw [hT]
 simp only [hf _ _ h9,hf _ _ h10,hf _ _ h11]
 clear hf hs h9 h10 h11
 subst hT
 generalize hX0 : zr35 = X0
 simp only [zr35,zy,zx,Z31,nva,nvb,Try.f31,Option.getD_some] at hX0
 subst hX0
 obtain ⟨K,hK,hV,key,yek⟩:=kKV (L:=Lone) (J:=fun g=>To0 Try.prog Post Z V g) mu_to0 (muv_to0 hn)
 refine key _ ?_
 repeat (first|(with_reducible first|refine mu_seq hK ?_|refine mu_skip hK ?_|(refine mu_region_end hK ?_;try subst hkk)|refine mu_block hK ?_|refine mu_inBlock hK ?_|refine mu_ret hK ?_|refine mu_end hK ?_)|refine mu_exit hK rfl ?_|(with_reducible refine mu_regionH hK (fun kk hkk=>?_);simp only [List.size_toArray,List.length_cons,List.length_nil,Nat.reduceAdd,Nat.zero_add,List.range,List.range.loop])|(with_reducible refine mu_cf hK ?_ ?_;(· first|(walk_nrm;done)|(simp [Act.eval];done)))|(with_reducible refine mu_ct hK ?_ ?_;(· first|(walk_nrm;done)|(simp [Act.eval];done)))|(refine mu_unwanted hK rfl rfl ?_;walk_nrm)|(refine muv_val hV rfl (by first|exact .inl rfl|exact .inr rfl) rfl (by kernel_rfl) (fun J hJ=>?_);go_simp;with_reducible refine hJ _ ?_;clear hJ J;walk_nrm))
 refine yek _ ?_
 clear hK hV key yek K
 refine To0.walk (will_leave (fn:=Try.f31) rfl rfl Try.func31 (v:=.tuple #[ov,lv,.int .i64 v]) (fun τ=>?_) (Will.stop ?_))
 · simp only [results,Try.f31,List.mapM_toArray,List.mapM_cons,List.mapM_nil,Sem.run_bind]
   go_simp
 · rw [Frame.finish_at]
   exact hK0
end
end Go.Proofs.Ytibcdikfbhmheaa

namespace Go.Proofs.Ytibcdikfbhmheaa
open Go Go.Conc Go.Proofs
open Go.ConcN (sumTo upd sumTo_upd upd_ne upd_same)
set_option linter.unusedVariables false
structure Rw3 (V : World) (la : Option Addr) (n : Nat) (acts : Nat → List (Int × Int × Int)) (ra : Nat → Option Addr) (rc : Nat → Nat) : Prop where
 out : 0 < n → ∃ g o,la = some ⟨g,o,none⟩ ∧ g < V.heap.size ∧ ∀ j,j < n → V.cell? ⟨g,o + j,none⟩ = some (.slice (ra j) (acts j).length (rc j))
 inn : ∀ i,i < n → 0 < (acts i).length → ∃ g o,ra i = some ⟨g,o,none⟩ ∧ g < V.heap.size ∧ ∀ j (hj : j < (acts i).length),V.cell? ⟨g,o + j * 3,none⟩ = some (.int .i64 ((acts i)[j]'hj).1) ∧ V.cell? ⟨g,o + j * 3 + 1,none⟩ = some (.int .i64 ((acts i)[j]'hj).2.1) ∧ V.cell? ⟨g,o + j * 3 + 2,none⟩ = some (.int .i64 ((acts i)[j]'hj).2.2)
theorem Rw3.kp {V V' : World} {la : Option Addr} {n : Nat} {acts : Nat → List (Int × Int × Int)} {ra : Nat → Option Addr} {rc : Nat → Nat} (h : Rw3 V la n acts ra rc) (k : Kp V V') : Rw3 V' la n acts ra rc:=⟨fun h0=>by
 obtain ⟨g,o,e,hg,c⟩:=h.out h0
 exact ⟨g,o,e,Nat.lt_of_lt_of_le hg k.size,fun j hj=>k.cell (c j hj)⟩,fun i hi h0=>by
 obtain ⟨g,o,e,hg,c⟩:=h.inn i hi h0
 exact ⟨g,o,e,Nat.lt_of_lt_of_le hg k.size,fun j hj=>⟨k.cell (c j hj).1,k.cell (c j hj).2.1,k.cell (c j hj).2.2⟩⟩⟩
abbrev Log:=List ((Nat × Nat) × (Int × Bool))
structure RJ (V0 : World) (n gd dc gb bc : Nat) (dnf : Nat → Nat) (bnf : Nat → Bool) (order : List Nat) (log : Log) (av : Value) (all : List Int) (ov lv : Value) (V : World) : Prop where
 nrm : norm V = V
 kp : Kp V0 V
 o : V.ownsRow 0 3 1 ov order.length (ints order)
 l : V.ownsRow 0 67 4 lv log.length (ents log)
 d : V.ownsRow 0 3 1 (.slice (some ⟨gd,0,none⟩) n dc) n (rowN dnf n)
 b : V.ownsRow 0 4 1 (.slice (some ⟨gb,0,none⟩) n bc) n (rowB bnf n)
 a : V.ownsRow 0 3 1 av all.length (all.map fun p=>Value.int .i64 p)
 lo : V0.heap.size ≤ gd ∧ V0.heap.size ≤ gb
 oo : ∀ b,ov.ownBlock = some b → V0.heap.size ≤ b ∧ b ≠ gd ∧ av.ownBlock ≠ some b
 ll : ∀ b,lv.ownBlock = some b → V0.heap.size ≤ b
 aa : ∀ b,av.ownBlock = some b → V0.heap.size ≤ b ∧ b ≠ gd
theorem gd_own {gd n dc : Nat} : (Value.slice (some ⟨gd,0,none⟩) n dc).ownBlock = some gd:=rfl
theorem row_ty {V : World} {e : TypeId} {sz : Nat} {v : Value} {n : Nat} {xs : List Value} (h : V.ownsRow 0 e sz v n xs) {b : Nat} (hb : v.ownBlock = some b) : ∃ c,V.heap[b]? = some (.cells c e (0,0)):=by
 obtain ⟨_,h2⟩:=h
 rcases h2 with ⟨rfl,_⟩ | ⟨g,cap,cur,rfl,_,h4,_⟩
 · cases hb
 · obtain rfl : g = b:=by simpa [Value.ownBlock] using hb
   exact ⟨_,h4⟩
section
variable {V0 V V' : World} {n gd dc gb bc i p : Nat} {dnf : Nat → Nat} {bnf : Nat → Bool} {order : List Nat} {log : Log} {av ov lv ov' lv' : Value} {all : List Int}
theorem apart {e t : TypeId} {sz sz' : Nat} {v u : Value} {m m' : Nat} {xs ys : List Value} (h : V.ownsRow 0 e sz v m xs) (h' : V.ownsRow 0 t sz' u m' ys) (hne : e ≠ t) {b : Nat} (hb : v.ownBlock = some b) : u.ownBlock ≠ some b:=fun hb'=>by
 obtain ⟨c,e1⟩:=row_ty h hb
 obtain ⟨c',e2⟩:=row_ty h' hb'
 rw [e1] at e2
 injection e2 with e2
 injection e2 with _ e2 _
 exact hne e2
theorem RJ.kpp (R : RJ V0 n gd dc gb bc dnf bnf order log av all ov lv V) (hk : Kp V V') (hn : norm V' = V') : RJ V0 n gd dc gb bc dnf bnf order log av all ov lv V' :=
 ⟨hn,R.kp.trans hk,row_keep R.o fun b hb=>hk.keep b (row_at R.o hb),row_keep R.l fun b hb=>hk.keep b (row_at R.l hb),row_keep R.d fun b hb=>hk.keep b (row_at R.d hb),row_keep R.b fun b hb=>hk.keep b (row_at R.b hb),row_keep R.a fun b hb=>hk.keep b (row_at R.a hb),R.lo,R.oo,R.ll,R.aa⟩
structure Off (V0 : World) (gd gb : Nat) (ov lv av : Value) (c : Nat) : Prop where
 lo : V0.heap.size ≤ c
 o : ov.ownBlock ≠ some c
 l : lv.ownBlock ≠ some c
 a : av.ownBlock ≠ some c
 d : c ≠ gd
 b : c ≠ gb
theorem RJ.new (R : RJ V0 n gd dc gb bc dnf bnf order log av all ov lv V) : Off V0 gd gb ov lv av V.heap.size:=by
 have hd:=row_at R.d gd_own
 have hb:=row_at R.b gd_own
 exact ⟨R.kp.size,fun e=>by have:=row_at R.o e; omega,fun e=>by have:=row_at R.l e; omega,fun e=>by have:=row_at R.a e; omega,by omega,by omega⟩
theorem RJ.off (R : RJ V0 n gd dc gb bc dnf bnf order log av all ov lv V) {c j : Nat} {x : Value} (h : Off V0 gd gb ov lv av c) : RJ V0 n gd dc gb bc dnf bnf order log av all ov lv (V.setCell ⟨c,j,none⟩ x) :=
 ⟨norm_set R.nrm _ _,⟨by have:=R.kp.size; simpa [World.setCell] using this,fun b hb=>by rw [set_offA _ (by have:=h.lo; omega)]; exact R.kp.keep b hb⟩,
  row_keep R.o fun b hb=>set_offA _ fun e=>h.o (e ▸ hb),row_keep R.l fun b hb=>set_offA _ fun e=>h.l (e ▸ hb),row_keep R.d fun b hb=>set_offA _ fun e=>h.d (by rw [← e]; exact (Option.some.inj (show some gd = some b from hb)).symm),row_keep R.b fun b hb=>set_offA _ fun e=>h.b (by rw [← e]; exact (Option.some.inj (show some gb = some b from hb)).symm),row_keep R.a fun b hb=>set_offA _ fun e=>h.a (e ▸ hb),R.lo,R.oo,R.ll,R.aa⟩
theorem RJ.setd (R : RJ V0 n gd dc gb bc dnf bnf order log av all ov lv V) (hi : i < n) (q : Nat) : RJ V0 n gd dc gb bc (upd dnf i q) bnf order log av all ov lv (V.setCell ⟨gd,i,none⟩ (.int .i64 (q : Int))):=by
 refine ⟨norm_set R.nrm _ _,⟨by have:=R.kp.size; simpa [World.setCell] using this,fun b hb=>by rw [set_offA _ (by have:=R.lo.1; omega)]; exact R.kp.keep b hb⟩,row_keep R.o fun b hb=>set_offA _ fun e=>(R.oo b hb).2.1 e,row_keep R.l fun b hb=>set_offA _ fun e=>?_,?_,row_keep R.b fun b hb=>set_offA _ fun e=>?_,row_keep R.a fun b hb=>set_offA _ fun e=>(R.aa b hb).2 e,R.lo,R.oo,R.ll,R.aa⟩
 · exact apart R.l R.d (by decide) hb (by rw [e]; rfl)
 · have:=row_set (x:=.int .i64 (q : Int)) R.d gd_own hi
   rwa [rowN_set] at this
 · exact apart R.b R.d (by decide) hb (by rw [e]; rfl)
theorem RJ.setb (R : RJ V0 n gd dc gb bc dnf bnf order log av all ov lv V) (hi : i < n) (q : Bool) : RJ V0 n gd dc gb bc dnf (upd bnf i q) order log av all ov lv (V.setCell ⟨gb,i,none⟩ (.bool q)):=by
 refine ⟨norm_set R.nrm _ _,⟨by have:=R.kp.size; simpa [World.setCell] using this,fun b hb=>by rw [set_offA _ (by have:=R.lo.2; omega)]; exact R.kp.keep b hb⟩,row_keep R.o fun b hb=>set_offA _ fun e=>?_,row_keep R.l fun b hb=>set_offA _ fun e=>?_,row_keep R.d fun b hb=>set_offA _ fun e=>?_,?_,row_keep R.a fun b hb=>set_offA _ fun e=>?_,R.lo,R.oo,R.ll,R.aa⟩
 · exact apart R.o R.b (by decide) hb (by rw [e]; rfl)
 · exact apart R.l R.b (by decide) hb (by rw [e]; rfl)
 · exact apart R.d R.b (by decide) hb (by rw [e]; rfl)
 · have:=row_set (x:=.bool q) R.b gd_own hi
   rwa [rowB_set] at this
 · exact apart R.a R.b (by decide) hb (by rw [e]; rfl)
theorem RJ.addo (R : RJ V0 n gd dc gb bc dnf bnf order log av all ov lv V) (hn : norm V' = V') (h : V'.ownsRow 0 3 1 ov' (order.length + 1) (ints order ++ [.int .i64 (i : Int)])) (hs : V.heap.size ≤ V'.heap.size) (hk : ∀ b,b < V.heap.size → ov.ownBlock ≠ some b → V'.heap[b]? = V.heap[b]?) (ho : ∀ b,ov'.ownBlock = some b → ov.ownBlock = some b ∨ V.heap.size ≤ b) : RJ V0 n gd dc gb bc dnf bnf (order ++ [i]) log av all ov' lv V':=by
 have hd:=row_at R.d gd_own
 refine ⟨hn,⟨Nat.le_trans R.kp.size hs,fun b hb=>by rw [hk b (Nat.lt_of_lt_of_le hb R.kp.size) (fun e=>by have:=(R.oo b e).1; omega)]; exact R.kp.keep b hb⟩,?_,row_keep R.l fun b hb=>hk b (row_at R.l hb) (apart R.l R.o (by decide) hb),row_keep R.d fun b hb=>hk b (row_at R.d hb) fun e=>?_,row_keep R.b fun b hb=>hk b (row_at R.b hb) (apart R.b R.o (by decide) hb),row_keep R.a fun b hb=>hk b (row_at R.a hb) fun e=>(R.oo b e).2.2 hb,R.lo,fun b hb=>?_,R.ll,R.aa⟩
 · rw [List.length_append]
   have e : ints (order ++ [i]) = ints order ++ [.int .i64 (i : Int)]:=by simp [ints]
   rw [e]; exact h
 · exact (R.oo b e).2.1 (Option.some.inj (show some gd = some b from hb)).symm
 · rcases ho b hb with h | h
   · exact R.oo b h
   · exact ⟨Nat.le_trans R.kp.size h,by omega,fun e=>by have:=row_at R.a e; omega⟩
theorem RJ.addl (R : RJ V0 n gd dc gb bc dnf bnf order log av all ov lv V) (hn : norm V' = V') {k : Nat} {r : Int} {ok : Bool} (h : V'.ownsRow 0 67 4 lv' (log.length + 1) (ents log ++ [.int .i64 (i : Int),.int .i64 (k : Int),.int .i64 r,.bool ok])) (hs : V.heap.size ≤ V'.heap.size) (hk : ∀ b,b < V.heap.size → lv.ownBlock ≠ some b → V'.heap[b]? = V.heap[b]?) (ho : ∀ b,lv'.ownBlock = some b → lv.ownBlock = some b ∨ V.heap.size ≤ b) : RJ V0 n gd dc gb bc dnf bnf order (log ++ [((i,k),(r,ok))]) av all ov lv' V':=by
 refine ⟨hn,⟨Nat.le_trans R.kp.size hs,fun b hb=>by rw [hk b (Nat.lt_of_lt_of_le hb R.kp.size) (fun e=>by have:=R.ll b e; omega)]; exact R.kp.keep b hb⟩,row_keep R.o fun b hb=>hk b (row_at R.o hb) (apart R.o R.l (by decide) hb),?_,row_keep R.d fun b hb=>hk b (row_at R.d hb) (apart R.d R.l (by decide) hb),row_keep R.b fun b hb=>hk b (row_at R.b hb) (apart R.b R.l (by decide) hb),row_keep R.a fun b hb=>hk b (row_at R.a hb) (apart R.a R.l (by decide) hb),R.lo,R.oo,fun b hb=>?_,R.aa⟩
 · rw [List.length_append,ents_snoc]; exact h
 · rcases ho b hb with h | h
   · exact R.ll b h
   · exact Nat.le_trans R.kp.size h
theorem RJ.adda (R : RJ V0 n gd dc gb bc dnf bnf order log av all ov lv V) (hn : norm V' = V') {av' : Value} {q : Int} (h : V'.ownsRow 0 3 1 av' (all.length + 1) ((all.map fun p=>Value.int .i64 p) ++ [.int .i64 q])) (hs : V.heap.size ≤ V'.heap.size) (hk : ∀ b,b < V.heap.size → av.ownBlock ≠ some b → V'.heap[b]? = V.heap[b]?) (ho : ∀ b,av'.ownBlock = some b → av.ownBlock = some b ∨ V.heap.size ≤ b) : RJ V0 n gd dc gb bc dnf bnf order log av' (all ++ [q]) ov lv V':=by
 have hd:=row_at R.d gd_own
 refine ⟨hn,⟨Nat.le_trans R.kp.size hs,fun b hb=>by rw [hk b (Nat.lt_of_lt_of_le hb R.kp.size) (fun e=>by have:=(R.aa b e).1; omega)]; exact R.kp.keep b hb⟩,row_keep R.o fun b hb=>hk b (row_at R.o hb) fun e=>(R.oo b hb).2.2 e,row_keep R.l fun b hb=>hk b (row_at R.l hb) (apart R.l R.a (by decide) hb),row_keep R.d fun b hb=>hk b (row_at R.d hb) fun e=>(R.aa b e).2 (Option.some.inj (show some gd = some b from hb)).symm,row_keep R.b fun b hb=>hk b (row_at R.b hb) (apart R.b R.a (by decide) hb),?_,R.lo,fun b hb=>⟨(R.oo b hb).1,(R.oo b hb).2.1,fun e=>?_⟩,R.ll,fun b hb=>?_⟩
 · rw [List.length_append,List.map_append]; exact h
 · rcases ho b e with h | h
   · exact (R.oo b hb).2.2 h
   · have:=row_at R.o hb; omega
 · rcases ho b hb with h | h
   · exact R.aa b h
   · exact ⟨Nat.le_trans R.kp.size h,by omega⟩
end
def dnA (acts : Nat → List (Int × Int × Int)) (s : AM) (j : Nat) : Nat:=if s.t j = 0 then 0 else if s.t j ≤ (acts j).length then s.t j - 1 else (acts j).length + 1
def bnA (s : AM) (j : Nat) : Bool:=decide (s.t j ≠ 0)
structure RI (V0 : World) (n gd dc gb bc : Nat) (acts : Nat → List (Int × Int × Int)) (x : AM × List Nat) (av : Value) (all : List Int) (ov lv : Value) (V : World) : Prop where
 rj : RJ V0 n gd dc gb bc (dnA acts x.1) (bnA x.1) x.2 x.1.log av all ov lv V
 le : ∀ j,j < n → x.1.t j ≤ (acts j).length + 1
 cnt : x.1.log.length ≤ sumTo n x.1.t
end Go.Proofs.Ytibcdikfbhmheaa

namespace Go.Proofs.Ytibcdikfbhmheaa
open Go Go.Conc Go.Proofs
open Go.ConcN (sumTo upd sumTo_upd upd_ne upd_same)
set_option linter.unusedVariables false
theorem row_len {V : World} {e : TypeId} {sz : Nat} {b : Option Addr} {m c n : Nat} {xs : List Value} (h : V.ownsRow 0 e sz (.slice b m c) n xs) : m = n:=by
 obtain ⟨_,h2⟩:=h
 rcases h2 with ⟨h,h0⟩ | ⟨g,cap,cur,h,_⟩
 · injection h with _ h _; omega
 · injection h with _ h _
theorem cond_atZ {T : Array Value} {j : Nat} {b : Bool} (h : T[j]? = some (.bool b)) : (⟨T,[]⟩ : Act).eval (.tmp j) = .bool b:=by
 show T.getD j undef = _
 simp [Array.getD_eq_getD_getElem?,h]
section
variable {V0 V : World} {Z : Cuts} {Post : Value → World → Prop} {n lc gd dc gb bc m vc k i b18 b19 p : Nat} {la va : Option Addr} {acts : Nat → List (Int × Int × Int)} {ra : Nat → Option Addr} {rc : Nat → Nat} {dnf : Nat → Nat} {bnf : Nat → Bool} {order : List Nat} {log : Log} {ov lv : Value} {all : List Int} {v a nn od r : Int} {ok : Bool} {T : Array Value} {kt : List Item} {cs0 : List Frame}
theorem z_tail (Rj : RJ V0 n gd dc gb bc dnf bnf order log (.slice va m vc) all ov lv V) (hi : i < n) (hp : dnf i = p) (hp6 : p < 1000000) (hlg : log.length < 900000000) (e18 : V.heap[b18]? = some (.cells #[.int .i64 a,.int .i64 nn,.int .i64 od] 57 (0,0))) (e19 : V.heap[b19]? = some (.cells #[.int .i64 (i : Int),.int .i64 (p : Int),.int .i64 r,.bool ok] 67 (0,0))) (hT : Fg 161 [(0,.slice la n lc),(9,ov),(10,lv),(11,.int .i64 v),(12,.slice (some ⟨gd,0,none⟩) n dc),(13,.slice (some ⟨gb,0,none⟩) n bc),(14,.slice va m vc),(16,.int .i64 (k : Int)),(17,.int .i64 (i : Int)),(18,.pointer (some ⟨b18,0,none⟩)),(19,.pointer (some ⟨b19,0,none⟩))] T)
   (K : ∀ T' V' lv',RJ V0 n gd dc gb bc (upd dnf i (p + 1)) bnf order (if a = 3 then log else log ++ [((i,p),(r,ok))]) (.slice va m vc) all ov lv' V' → Fg 161 [(0,.slice la n lc),(9,ov),(10,lv'),(11,.int .i64 v),(12,.slice (some ⟨gd,0,none⟩) n dc),(13,.slice (some ⟨gb,0,none⟩) n bc),(14,.slice va m vc),(16,.int .i64 (k : Int)),(17,.int .i64 (i : Int))] T' → To0 Try.prog Post Z V' (G ((base 31).at ⟨T',[]⟩ kt) cs0)) :
   To0 Try.prog Post Z V (G ((base 31).at ⟨T,[]⟩ (.code (.seq (.seq zr29 (.cond (.tmp 128) zr30 .skip)) zr31) :: kt)) cs0):=by
 have fin : ∀ T1 V1 lv1 log1,RJ V0 n gd dc gb bc dnf bnf order log1 (.slice va m vc) all ov lv1 V1 → log1 = (if a = 3 then log else log ++ [((i,p),(r,ok))]) → Fg 161 [(0,.slice la n lc),(9,ov),(10,lv1),(11,.int .i64 v),(12,.slice (some ⟨gd,0,none⟩) n dc),(13,.slice (some ⟨gb,0,none⟩) n bc),(14,.slice va m vc),(16,.int .i64 (k : Int)),(17,.int .i64 (i : Int))] T1 → To0 Try.prog Post Z V1 (G ((base 31).at ⟨T1,[]⟩ (.code zr31 :: kt)) cs0):=fun T1 V1 lv1 log1 R1 hl hT1=>by
   have hc:=row_cell R1.d (rowN_at hi)
   rw [hp] at hc
   refine z_r31 R1.nrm hi hp6 hc.1 hc.2 hT1 fun T2 hT2=>?_
   subst hl
   exact K T2 _ lv1 (R1.setd hi (p + 1)) hT2
 refine mu_seq mu_to0 (mu_seq mu_to0 ?_)
 by_cases h3 : a = 3
 · refine z_r29 (x:=false) Rj.nrm (by simp [h3]) e18 hT fun T1 hT1 h128=>?_
   refine mu_cond mu_to0 false (cond_atZ h128) (mu_skip mu_to0 ?_)
   refine fin T1 V lv log Rj (if_pos h3).symm ?_
   obtain ⟨hs,h0,h9,h10,h11,h12,h13,h14,h16,h17,-⟩:=hT1
   exact ⟨hs,h0,h9,h10,h11,h12,h13,h14,h16,h17,trivial⟩
 · refine z_r29 (x:=true) Rj.nrm (by simp [h3]) e18 hT fun T1 hT1 h128=>?_
   refine mu_cond mu_to0 true (cond_atZ h128) ?_
   refine z_r30 Rj.nrm e19 Rj.l hlg hT1 fun T2 V2 lv2 hT2 hn2 hrow hs hk ho=>?_
   exact fin T2 V2 lv2 _ (Rj.addl hn2 hrow hs hk ho) (if_neg h3).symm hT2
theorem z_act (Rj : RJ V0 n gd dc gb bc dnf bnf order log (.slice va m vc) all ov lv V) (hR : Rw3 V0 la n acts ra rc) (hi : i < n) (hp : dnf i = p) (hp6 : p < 1000000) (hlg : log.length < 900000000) {y : Int × Int × Int} (hy : (acts i)[p]? = some y) (hyk : y.1 = 0 ∨ y.1 = 1 ∨ y.1 = 2 ∨ y.1 = 3) (hT : Fg 161 [(0,.slice la n lc),(9,ov),(10,lv),(11,.int .i64 v),(12,.slice (some ⟨gd,0,none⟩) n dc),(13,.slice (some ⟨gb,0,none⟩) n bc),(14,.slice va m vc),(16,.int .i64 (k : Int)),(17,.int .i64 (i : Int))] T)
   (K : ∀ T' V' lv',RJ V0 n gd dc gb bc (upd dnf i (p + 1)) bnf order (if y.1 = 3 then log else log ++ [((i,p),(rvA y v,okA y v))]) (.slice va m vc) all ov lv' V' → Fg 161 [(0,.slice la n lc),(9,ov),(10,lv'),(11,.int .i64 (nvA y v)),(12,.slice (some ⟨gd,0,none⟩) n dc),(13,.slice (some ⟨gb,0,none⟩) n bc),(14,.slice va m vc),(16,.int .i64 (k : Int)),(17,.int .i64 (i : Int))] T' → To0 Try.prog Post Z V' (G ((base 31).at ⟨T',[]⟩ kt) cs0)) :
   To0 Try.prog Post Z V (G ((base 31).at ⟨T,[]⟩ (.code zb20 :: kt)) cs0):=by
 obtain ⟨a,nn,od⟩:=y
 obtain ⟨hpl,hy'⟩:=List.getElem?_eq_some_iff.1 hy
 have hR':=hR.kp Rj.kp
 obtain ⟨g,o,hla,hg,hl⟩:=hR'.out (by omega)
 obtain ⟨h,q,hra,hh,hc⟩:=hR'.inn i hi (by omega)
 obtain ⟨c1,c2,c3⟩:=hc p hpl
 rw [hy'] at c1 c2 c3
 have hd:=row_cell Rj.d (rowN_at hi)
 rw [hp] at hd
 have hli:=hl i hi
 rw [hra] at hli
 refine (fun (h : ∀ Y,Y = zb20 → To0 Try.prog Post Z V (G ((base 31).at ⟨T,[]⟩ (.code Y :: kt)) cs0))=>h zb20 rfl) ?_
 intro Y hY
 rw [zb20_eq] at hY
 subst hY
 refine mu_seq mu_to0 ?_
 refine z_r20 (a:=a) (nn:=nn) (od:=od) (p:=p) (h:=h) (q:=q) Rj.nrm hi hpl hla ⟨hli,hd.1,c1,c2,c3⟩ hT fun T1 V1 hT1 n1 k1 s1 e18=>?_
 have R1:=Rj.kpp k1 n1
 have hd1:=row_cell R1.d (rowN_at hi)
 rw [hp] at hd1
 refine mu_seq mu_to0 ?_
 have O2:=R1.new
 refine z_r21 n1 hi hd1.1 hT1 fun T2 V2 hT2 n2 k2 s2 e19=>?_
 have R2:=R1.kpp k2 n2
 have e182:=(k2.keep V.heap.size (by omega)).trans e18
 have hne : V.heap.size ≠ V1.heap.size:=by omega
 clear k1 k2 n1 e18 hd hd1 c1 c2 c3
 generalize V.heap.size = b18 at *
 generalize V1.heap.size = b19 at *
 have keep18 : ∀ (W : World) j x,(W.setCell ⟨b19,j,none⟩ x).heap[b18]? = W.heap[b18]?:=fun W j x=>set_offA _ hne
 refine mu_seq mu_to0 ?_
 rcases hyk with h0 | h0 | h0 | h0
 · obtain rfl : a = 0:=h0
   have w1 : nvA (0,nn,od) v = v:=by simp [nvA]
   have w2 : rvA (0,nn,od) v = v:=by simp [rvA]
   have w3 : okA (0,nn,od) v = false:=by simp [okA]
   rw [w1,w2,w3] at K
   refine z_c22n R2.nrm (by decide) e182 hT2 fun T3 hT3=>?_
   refine mu_seq mu_to0 ?_
   refine z_c24o R2.nrm (by decide) e182 hT3 fun T4 hT4=>?_
   refine mu_seq mu_to0 ?_
   refine z_c27y R2.nrm (by decide) e182 e19 hT4 fun T5 hT5=>?_
   refine z_tail (R2.off O2) hi hp hp6 hlg ((keep18 _ _ _).trans e182) (r:=v) (ok:=false) ?_ hT5 K
   rw [setCell_heap,if_pos rfl,e19]
   simp
 · obtain rfl : a = 1:=h0
   have w1 : nvA (1,nn,od) v = IntKind.i64.wrap (v + nn):=by simp [nvA]
   have w2 : rvA (1,nn,od) v = IntKind.i64.wrap (v + nn):=by simp [rvA]
   have w3 : okA (1,nn,od) v = false:=by simp [okA]
   rw [w1,w2,w3] at K
   refine z_c22y R2.nrm rfl e182 hT2 fun T3 hT3=>?_
   refine mu_seq mu_to0 ?_
   refine z_c24o R2.nrm (by decide) e182 hT3 fun T4 hT4=>?_
   refine mu_seq mu_to0 ?_
   refine z_c27y R2.nrm (by decide) e182 e19 hT4 fun T5 hT5=>?_
   refine z_tail (R2.off O2) hi hp hp6 hlg ((keep18 _ _ _).trans e182) (r:=IntKind.i64.wrap (v + nn)) (ok:=false) ?_ hT5 K
   rw [setCell_heap,if_pos rfl,e19]
   simp
 · obtain rfl : a = 2:=h0
   have w2 : rvA (2,nn,od) v = 0:=by simp [rvA]
   by_cases hv : v = od
   · have w1 : nvA (2,nn,od) v = nn:=by simp [nvA,hv]
     have w3 : okA (2,nn,od) v = true:=by simp [okA,hv]
     rw [w1,w2,w3] at K
     refine z_c22n R2.nrm (by decide) e182 hT2 fun T3 hT3=>?_
     refine mu_seq mu_to0 ?_
     refine z_c24y R2.nrm rfl hv e182 e19 hT3 fun T4 hT4=>?_
     refine mu_seq mu_to0 ?_
     have R3:=R2.off (j:=3) (x:=.bool true) O2
     have e183:=(keep18 V2 3 (.bool true)).trans e182
     refine z_c27n R3.nrm (by decide) e183 hT4 fun T5 hT5=>?_
     refine z_tail R3 hi hp hp6 hlg e183 (r:=0) (ok:=true) ?_ hT5 K
     rw [setCell_heap,if_pos rfl,e19]
     simp
   · have w1 : nvA (2,nn,od) v = v:=by simp [nvA,hv]
     have w3 : okA (2,nn,od) v = false:=by simp [okA,hv]
     rw [w1,w2,w3] at K
     refine z_c22n R2.nrm (by decide) e182 hT2 fun T3 hT3=>?_
     refine mu_seq mu_to0 ?_
     refine z_c24n R2.nrm rfl hv e182 hT3 fun T4 hT4=>?_
     refine mu_seq mu_to0 ?_
     refine z_c27n R2.nrm (by decide) e182 hT4 fun T5 hT5=>?_
     exact z_tail R2 hi hp hp6 hlg e182 e19 hT5 K
 · obtain rfl : a = 3:=h0
   have w1 : nvA (3,nn,od) v = v:=by simp [nvA]
   have w2 : rvA (3,nn,od) v = 0:=by simp [rvA]
   have w3 : okA (3,nn,od) v = false:=by simp [okA]
   rw [w1,w2,w3] at K
   refine z_c22n R2.nrm (by decide) e182 hT2 fun T3 hT3=>?_
   refine mu_seq mu_to0 ?_
   refine z_c24o R2.nrm (by decide) e182 hT3 fun T4 hT4=>?_
   refine mu_seq mu_to0 ?_
   refine z_c27n R2.nrm (by decide) e182 hT4 fun T5 hT5=>?_
   exact z_tail R2 hi hp hp6 hlg e182 e19 hT5 K
theorem z_fin (Rj : RJ V0 n gd dc gb bc dnf bnf order log (.slice va m vc) all ov lv V) (hR : Rw3 V0 la n acts ra rc) (hi : i < n) (hd6 : dnf i < 1000000) (hT : Fg 161 [(0,.slice la n lc),(9,ov),(10,lv),(11,.int .i64 v),(12,.slice (some ⟨gd,0,none⟩) n dc),(13,.slice (some ⟨gb,0,none⟩) n bc),(14,.slice va m vc),(16,.int .i64 (k : Int)),(17,.int .i64 (i : Int))] T)
   (K : ∀ T' V',RJ V0 n gd dc gb bc (if dnf i = (acts i).length then upd dnf i (dnf i + 1) else dnf) (upd bnf i true) order log (.slice va m vc) all ov lv V' → Fg 161 [(0,.slice la n lc),(9,ov),(10,lv),(11,.int .i64 v),(12,.slice (some ⟨gd,0,none⟩) n dc),(13,.slice (some ⟨gb,0,none⟩) n bc),(14,.slice va m vc),(16,.int .i64 (k : Int))] T' → To0 Try.prog Post Z V' (G ((base 31).at ⟨T',[]⟩ kt) cs0)) :
   To0 Try.prog Post Z V (G ((base 31).at ⟨T,[]⟩ (.code (.seq zr32 (.seq zr33 (.cond (.tmp 151) zr34 .skip))) :: kt)) cs0):=by
 have hb:=row_cell Rj.b (rowB_at hi)
 refine mu_seq mu_to0 ?_
 refine z_r32 Rj.nrm hi hb.1 hb.2 hT fun T1 hT1=>?_
 have R1:=Rj.setb hi true
 generalize V.setCell ⟨gb,i,none⟩ (.bool true) = V1 at *
 obtain ⟨g,o,hla,hg,hl⟩:=(hR.kp R1.kp).out (by omega)
 have hd:=row_cell R1.d (rowN_at hi)
 refine mu_seq mu_to0 ?_
 have drop : ∀ T,Fg 161 [(0,.slice la n lc),(9,ov),(10,lv),(11,.int .i64 v),(12,.slice (some ⟨gd,0,none⟩) n dc),(13,.slice (some ⟨gb,0,none⟩) n bc),(14,.slice va m vc),(16,.int .i64 (k : Int)),(17,.int .i64 (i : Int))] T → Fg 161 [(0,.slice la n lc),(9,ov),(10,lv),(11,.int .i64 v),(12,.slice (some ⟨gd,0,none⟩) n dc),(13,.slice (some ⟨gb,0,none⟩) n bc),(14,.slice va m vc),(16,.int .i64 (k : Int))] T:=fun T h=>by
   obtain ⟨hs,h0,h9,h10,h11,h12,h13,h14,h16,h17,-⟩:=h
   exact ⟨hs,h0,h9,h10,h11,h12,h13,h14,h16,trivial⟩
 by_cases he : dnf i = (acts i).length
 · refine z_r33 (x:=true) R1.nrm hi hla (hl i hi) hd.1 (by simp [he]) hT1 fun T2 hT2 h151=>?_
   refine mu_cond mu_to0 true (cond_atZ h151) ?_
   refine z_r34 R1.nrm hi hd6 hd.1 hd.2 hT2 fun T3 hT3=>?_
   rw [if_pos he] at K
   exact K T3 _ (R1.setd hi _) (drop _ hT3)
 · refine z_r33 (x:=false) R1.nrm hi hla (hl i hi) hd.1 (by simp; omega) hT1 fun T2 hT2 h151=>?_
   refine mu_cond mu_to0 false (cond_atZ h151) (mu_skip mu_to0 ?_)
   rw [if_neg he] at K
   exact K T2 _ R1 (drop _ hT2)
theorem dn_next {s : AM} (ht : s.t i ≤ (acts i).length) : dnA acts (aturn acts s i) = (if upd (dnA acts s) i (s.t i) i = (acts i).length then upd (upd (dnA acts s) i (s.t i)) i (upd (dnA acts s) i (s.t i) i + 1) else upd (dnA acts s) i (s.t i)):=by
 funext j
 rw [upd_same]
 by_cases e : j = i
 · subst e
   have h1 : dnA acts (aturn acts s j) j = if s.t j + 1 ≤ (acts j).length then s.t j else (acts j).length + 1:=by
     unfold dnA
     rw [aturn_t,upd_same,if_neg (by omega)]
     rfl
   rw [h1]
   by_cases h : s.t j = (acts j).length
   · rw [if_neg (by omega),if_pos h,upd_same]; omega
   · rw [if_pos (by omega),if_neg h,upd_same]
 · have h1 : dnA acts (aturn acts s i) j = dnA acts s j:=by unfold dnA; rw [aturn_t,upd_ne _ _ e]
   rw [h1]
   split
   · rw [upd_ne _ _ e,upd_ne _ _ e]
   · rw [upd_ne _ _ e]
theorem bn_next {s : AM} : bnA (aturn acts s i) = upd (bnA s) i true:=by
 funext j
 unfold bnA
 rw [aturn_t]
 by_cases e : j = i
 · subst e; rw [upd_same,upd_same]; simp
 · rw [upd_ne _ _ e,upd_ne _ _ e]
theorem z_turn {x : AM × List Nat} (I : RI V0 n gd dc gb bc acts x (.slice va m vc) all ov lv V) (hR : Rw3 V0 la n acts ra rc) (hA : ∀ j,j < n → ∀ y ∈ acts j,y.1 = 0 ∨ y.1 = 1 ∨ y.1 = 2 ∨ y.1 = 3) (hlen : ∀ j,j < n → (acts j).length ≤ 20) (hn10 : n ≤ 10) (h0n : 0 < n) (hm : all.length = m) (hk : k < all.length) (hx : x.2.length < 800000000) (hT : Fg 161 [(0,.slice la n lc),(9,ov),(10,lv),(11,.int .i64 x.1.v),(12,.slice (some ⟨gd,0,none⟩) n dc),(13,.slice (some ⟨gb,0,none⟩) n bc),(14,.slice va m vc),(16,.int .i64 (k : Int))] T)
   (K : ∀ T' V' ov' lv',RI V0 n gd dc gb bc acts (amstp acts x (pidx n (all[k]'hk))) (.slice va m vc) all ov' lv' V' → Fg 161 [(0,.slice la n lc),(9,ov'),(10,lv'),(11,.int .i64 (amstp acts x (pidx n (all[k]'hk))).1.v),(12,.slice (some ⟨gd,0,none⟩) n dc),(13,.slice (some ⟨gb,0,none⟩) n bc),(14,.slice va m vc),(16,.int .i64 (k : Int))] T' → To0 Try.prog Post Z V' (G ((base 31).at ⟨T',[]⟩ kt) cs0)) :
   To0 Try.prog Post Z V (G ((base 31).at ⟨T,[]⟩ (.code zb14 :: .inBlock 3 :: kt)) cs0):=by
 obtain ⟨Rj,hle,hcnt⟩:=I
 obtain ⟨ga,ca,ea,hga,hca⟩:=row_block Rj.a (by omega)
 injection ea with ea1 ea2 ea3
 have hck : V.cell? ⟨ga,0 + k,none⟩ = some (.int .i64 (all[k]'hk)):=by
   rw [Nat.zero_add]
   exact hca k _ (by simp [hk])
 refine (fun (h : ∀ Y,Y = zb14 → To0 Try.prog Post Z V (G ((base 31).at ⟨T,[]⟩ (.code Y :: .inBlock 3 :: kt)) cs0))=>h zb14 rfl) ?_
 intro Y hY
 rw [zb14_eq] at hY
 subst hY
 refine mu_seq mu_to0 ?_
 refine z_r14 Rj.nrm ea1 (by omega) hck h0n (by omega) hT fun T1 hT1=>?_
 refine mu_seq mu_to0 ?_
 refine z_c15 Rj.nrm h0n (by omega) hT1 fun T2 hT2=>?_
 have hi : pidx n (all[k]'hk) < n:=pidx_ltL h0n _
 generalize pidx n (all[k]'hk) = i at *
 obtain ⟨g,o,hla,hg,hl⟩:=(hR.kp Rj.kp).out h0n
 have hd:=row_cell Rj.d (rowN_at hi)
 refine mu_seq mu_to0 (mu_seq mu_to0 ?_)
 have drop : ∀ {ov lv : Value} {v : Int} T,Fg 161 [(0,.slice la n lc),(9,ov),(10,lv),(11,.int .i64 v),(12,.slice (some ⟨gd,0,none⟩) n dc),(13,.slice (some ⟨gb,0,none⟩) n bc),(14,.slice va m vc),(16,.int .i64 (k : Int)),(17,.int .i64 (i : Int))] T → Fg 161 [(0,.slice la n lc),(9,ov),(10,lv),(11,.int .i64 v),(12,.slice (some ⟨gd,0,none⟩) n dc),(13,.slice (some ⟨gb,0,none⟩) n bc),(14,.slice va m vc),(16,.int .i64 (k : Int))] T:=fun T h=>by
   obtain ⟨hs,h0,h9,h10,h11,h12,h13,h14,h16,h17,-⟩:=h
   exact ⟨hs,h0,h9,h10,h11,h12,h13,h14,h16,trivial⟩
 have hli:=hlen i hi
 by_cases ht : x.1.t i ≤ (acts i).length
 · have hdl : ¬ (acts i).length < dnA acts x.1 i:=by unfold dnA; split <;> first | omega | (split <;> omega)
   refine z_r17 (x:=false) Rj.nrm hi hla (hl i hi) hd.1 (decide_eq_false (by omega)) hT2 fun T3 hT3 h77=>?_
   refine mu_cond mu_to0 false (cond_atZ h77) (mu_skip mu_to0 ?_)
   have ex : amstp acts x i = (aturn acts x.1 i,x.2 ++ [i]):=if_pos ht
   rw [ex] at K
   obtain ⟨va2,m2,vc2,rfl⟩:=slice_ofA Rj.o
   obtain rfl : m2 = x.2.length:=row_len Rj.o
   refine mu_seq mu_to0 ?_
   refine z_r18 Rj.nrm Rj.o (by omega) hT3 fun T4 V4 wa wc hT4 n4 r4 s4 k4 o4=>?_
   have R4:=Rj.addo (i:=i) n4 r4 s4 k4 o4
   have hcnt' : sumTo n x.1.t ≤ 10 * 21:=by
     have h2 : sumTo n x.1.t ≤ n * 21:=sum_bound fun j hj=>by have:=hle j hj; have:=hlen j hj; omega
     have h4 : n * 21 ≤ 10 * 21:=Nat.mul_le_mul_right _ hn10
     omega
   have hle' : ∀ j,j < n → (aturn acts x.1 i).t j ≤ (acts j).length + 1:=fun j hj=>by
     rw [aturn_t]
     by_cases e : j = i
     · subst e; rw [upd_same]; omega
     · rw [upd_ne _ _ e]; exact hle j hj
   clear k4 o4 r4 s4 n4
   refine mu_seq mu_to0 (mu_seq mu_to0 ?_)
   have hb:=row_cell R4.b (rowB_at hi)
   by_cases h0 : x.1.t i = 0
   · have hb0 : bnA x.1 i = false:=by simp [bnA,h0]
     rw [hb0] at hb
     refine z_r19 R4.nrm hi hb.1 hT4 fun T5 hT5 h85=>?_
     refine mu_cond mu_to0 false (cond_atZ h85) (mu_skip mu_to0 ?_)
     have hdn : dnA acts x.1 i = x.1.t i:=by unfold dnA; rw [if_pos h0,h0]
     have hup : upd (dnA acts x.1) i (x.1.t i) = dnA acts x.1:=by
       funext j
       by_cases e : j = i
       · subst e; rw [upd_same,hdn]
       · rw [upd_ne _ _ e]
     have hv : (aturn acts x.1 i).v = x.1.v ∧ (aturn acts x.1 i).log = x.1.log:=by unfold aturn; rw [if_pos h0]; exact ⟨rfl,rfl⟩
     refine z_fin R4 hR hi (by rw [hdn,h0]; omega) hT5 fun T6 V6 R6 hT6=>?_
     refine mu_inBlock mu_to0 ?_
     refine K T6 V6 (.slice wa (x.2.length + 1) wc) lv ⟨?_,hle',?_⟩ ?_
     · show RJ V0 n gd dc gb bc (dnA acts (aturn acts x.1 i)) (bnA (aturn acts x.1 i)) (x.2 ++ [i]) (aturn acts x.1 i).log _ all _ lv V6
       rw [dn_next ht,bn_next,hv.2,hup]
       exact R6
     · show (aturn acts x.1 i).log.length ≤ sumTo n (aturn acts x.1 i).t
       rw [hv.2,aturn_t,sum_up hi]; omega
     · rw [hv.1]; exact hT6
   · have hb0 : bnA x.1 i = true:=by simp [bnA,h0]
     rw [hb0] at hb
     refine z_r19 R4.nrm hi hb.1 hT4 fun T5 hT5 h85=>?_
     refine mu_cond mu_to0 true (cond_atZ h85) ?_
     obtain ⟨p,hp⟩ : ∃ p,x.1.t i = p + 1:=⟨x.1.t i - 1,by omega⟩
     have hdn : dnA acts x.1 i = p:=by unfold dnA; rw [if_neg h0,if_pos ht,hp]; rfl
     obtain ⟨y,hy⟩ : ∃ y,(acts i)[p]? = some y:=⟨_,List.getElem?_eq_getElem (by omega)⟩
     have hyk:=hA i hi y (List.mem_of_getElem? hy)
     obtain ⟨w1,w2⟩:=aturn_at (acts:=acts) (σ:=x.1) hp hy hyk
     refine z_act R4 hR hi hdn (by omega) (by omega) hy hyk hT5 fun T6 V6 lv6 R6 hT6=>?_
     refine z_fin R6 hR hi (by rw [upd_same]; omega) hT6 fun T7 V7 R7 hT7=>?_
     refine mu_inBlock mu_to0 ?_
     refine K T7 V7 (.slice wa (x.2.length + 1) wc) lv6 ⟨?_,hle',?_⟩ ?_
     · show RJ V0 n gd dc gb bc (dnA acts (aturn acts x.1 i)) (bnA (aturn acts x.1 i)) (x.2 ++ [i]) (aturn acts x.1 i).log _ all _ lv6 V7
       rw [dn_next ht,bn_next,w2,hp]
       exact R7
     · show (aturn acts x.1 i).log.length ≤ sumTo n (aturn acts x.1 i).t
       rw [w2,aturn_t,sum_up hi]
       split
       · omega
       · rw [List.length_append]; simp; omega
     · rw [w1]; exact hT7
 · have hdl : dnA acts x.1 i = (acts i).length + 1:=by unfold dnA; rw [if_neg (by omega),if_neg ht]
   refine z_r17 (x:=true) Rj.nrm hi hla (hl i hi) hd.1 (decide_eq_true (by omega)) hT2 fun T3 hT3 h77=>?_
   refine mu_cond mu_to0 true (cond_atZ h77) ?_
   refine mu_exit mu_to0 rfl ?_
   have ex : amstp acts x i = x:=if_neg ht
   rw [ex] at K
   exact K T3 V ov lv ⟨Rj,hle,hcnt⟩ (drop _ hT3)
end
end Go.Proofs.Ytibcdikfbhmheaa

namespace Go.Proofs.Ytibcdikfbhmheaa
open Go Go.Conc Go.Proofs
open Go.ConcN (sumTo upd sumTo_upd upd_ne upd_same)
set_option linter.unusedVariables false
def apk (n : Nat) (acts : Nat → List (Int × Int × Int)) (x : AM × List Nat) (p : Int) : AM × List Nat:=if n = 0 then x else amstp acts x (pidx n p)
def arnd (n : Nat) (acts : Nat → List (Int × Int × Int)) (x : AM × List Nat) : AM × List Nat:=(List.range n).foldl (amstp acts) x
def arnds (n : Nat) (acts : Nat → List (Int × Int × Int)) : Nat → AM × List Nat → AM × List Nat
 | 0,x=>x
 | m + 1,x=>if (arnd n acts x).2.length = x.2.length then arnd n acts x else arnds n acts m (arnd n acts x)
def arep (n : Nat) (acts : Nat → List (Int × Int × Int)) : Nat → AM × List Nat → AM × List Nat
 | 0,x=>x
 | m + 1,x=>arep n acts m (arnd n acts x)
def azero : AM:=⟨fun _=>0,0,[]⟩
def arun (n : Nat) (acts : Nat → List (Int × Int × Int)) (Rn : Nat) (ps : List Int) : AM × List Nat:=arnds n acts Rn (ps.foldl (apk n acts) (azero,[]))
def rng (n k : Nat) : List Int:=(List.range k).map fun j=>((j % n : Nat) : Int)
theorem afold_len (acts : Nat → List (Int × Int × Int)) : ∀ (l : List Nat) (x : AM × List Nat),x.2.length ≤ (l.foldl (amstp acts) x).2.length ∧ ((l.foldl (amstp acts) x).2.length = x.2.length → l.foldl (amstp acts) x = x)
 | [],x=>⟨Nat.le_refl _,fun _=>rfl⟩
 | i :: l,x=>by
   rw [List.foldl_cons]
   have h1 : x.2.length ≤ (amstp acts x i).2.length:=by
     unfold amstp
     split
     · simp
     · exact Nat.le_refl _
   have h2:=afold_len acts l (amstp acts x i)
   refine ⟨Nat.le_trans h1 h2.1,fun h=>?_⟩
   have e1 : (amstp acts x i).2.length = x.2.length:=by omega
   have e2:=(amstp_len acts x i).2 e1
   rw [e2] at h2 h ⊢
   exact h2.2 h
theorem arep_stay {n : Nat} {acts : Nat → List (Int × Int × Int)} {x : AM × List Nat} (h : arnd n acts x = x) : ∀ m,arep n acts m x = x
 | 0=>rfl
 | m + 1=>by
   unfold arep
   rw [h]; exact arep_stay h m
theorem arep_eq (n : Nat) (acts : Nat → List (Int × Int × Int)) : ∀ m x,arnds n acts m x = arep n acts m x
 | 0,x=>rfl
 | m + 1,x=>by
   unfold arnds arep
   split
   · rename_i h
     have e : arnd n acts x = x:=(afold_len acts (List.range n) x).2 h
     rw [e,arep_stay e]
   · exact arep_eq n acts m _
theorem pidx_nat {n k : Nat} (h : k < n) : pidx n (k : Int) = k:=by
 have h0 : ¬ ((k : Int).tmod n < 0):=by
   rw [Int.tmod_eq_emod_of_nonneg (by omega)]
   have:=Int.emod_nonneg (k : Int) (show (n : Int) ≠ 0 by omega)
   omega
 have h1:=pidx_pos (by omega) (k : Int) h0
 rw [Int.tmod_eq_emod_of_nonneg (by omega),Int.emod_eq_of_lt (by omega) (by omega)] at h1
 omega
theorem apk_rng (n : Nat) (acts : Nat → List (Int × Int × Int)) (h0 : 0 < n) (x : AM × List Nat) : (rng n n).foldl (apk n acts) x = arnd n acts x:=by
 unfold rng arnd
 rw [List.foldl_map]
 have key : ∀ (l : List Nat) (x : AM × List Nat),(∀ j ∈ l,j < n) → l.foldl (fun x y=>apk n acts x ((y % n : Nat) : Int)) x = l.foldl (amstp acts) x:=by
   intro l
   induction l with
   | nil=>intro x _; rfl
   | cons j l ih =>
     intro x hl
     have hj:=hl j (by simp)
     rw [List.foldl_cons,List.foldl_cons]
     have e : apk n acts x ((j % n : Nat) : Int) = amstp acts x j:=by
       unfold apk
       rw [if_neg (by omega),Nat.mod_eq_of_lt hj,pidx_nat hj]
     rw [e]
     exact ih _ fun k hk=>hl k (by simp [hk])
 exact key _ x fun j hj=>List.mem_range.1 hj
theorem rng_add (n k : Nat) : rng n (n + k) = rng n n ++ rng n k:=by
 unfold rng
 rw [List.range_add,List.map_append,List.map_map]
 congr 1
 apply List.map_congr_left
 intro j _
 simp
theorem rounds_eq (n : Nat) (acts : Nat → List (Int × Int × Int)) (h0 : 0 < n) : ∀ m (x : AM × List Nat),(rng n (m * n)).foldl (apk n acts) x = arep n acts m x
 | 0,x=>by simp [rng,arep]
 | m + 1,x=>by
   rw [show (m + 1) * n = n + m * n by rw [Nat.add_mul]; omega,rng_add,List.foldl_append,apk_rng n acts h0]
   exact rounds_eq n acts h0 m _
theorem apk_zero (acts : Nat → List (Int × Int × Int)) : ∀ (l : List Int) (x : AM × List Nat),l.foldl (apk 0 acts) x = x
 | [],x=>rfl
 | p :: l,x=>by rw [List.foldl_cons]; exact apk_zero acts l x
theorem arep_zero (acts : Nat → List (Int × Int × Int)) (m : Nat) (x : AM × List Nat) : arep 0 acts m x = x:=arep_stay (by rfl) m
theorem arun_eq (n : Nat) (acts : Nat → List (Int × Int × Int)) (Rn : Nat) (ps : List Int) : (ps ++ rng n (Rn * n)).foldl (apk n acts) (azero,[]) = arun n acts Rn ps:=by
 unfold arun
 rw [List.foldl_append,arep_eq]
 by_cases h0 : 0 < n
 · exact rounds_eq n acts h0 _ _
 · obtain rfl : n = 0:=by omega
   rw [apk_zero,arep_zero]
section
variable {V0 V : World} {Z : Cuts} {Post : Value → World → Prop} {n lc gd dc gb bc pl pc Rn : Nat} {la pa : Option Addr} {acts : Nat → List (Int × Int × Int)} {ra : Nat → Option Addr} {rc : Nat → Nat} {dnf : Nat → Nat} {bnf : Nat → Bool} {order : List Nat} {log : Log} {ov lv : Value} {ps : List Int} {v : Int} {kt : List Item} {cs0 : List Frame} {b₀ : Frame} {a₀ : Act} {ops₀ : Array Oper} {i₀ : Nat} {rest₀ : List Nat} {k₀ : List Item}
theorem z_la (hm : Rn * n < 1000000) (hps : ps.length < 1000000) : ∀ (q k m : Nat) (va : Option Addr) (vc : Nat) (V : World) (T : Array Value),q + k = Rn * n → m = ps.length + k → RJ V0 n gd dc gb bc dnf bnf order log (.slice va m vc) (ps ++ rng n k) ov lv V → Fg 161 [(0,.slice la n lc),(2,.int .i64 (Rn : Int)),(9,ov),(10,lv),(11,.int .i64 v),(12,.slice (some ⟨gd,0,none⟩) n dc),(13,.slice (some ⟨gb,0,none⟩) n bc),(14,.slice va m vc),(15,.int .i64 (k : Int))] T →
   (∀ va m vc V' T',RJ V0 n gd dc gb bc dnf bnf order log (.slice va m vc) (ps ++ rng n (Rn * n)) ov lv V' → m = ps.length + Rn * n → Fg 161 [(0,.slice la n lc),(9,ov),(10,lv),(11,.int .i64 v),(12,.slice (some ⟨gd,0,none⟩) n dc),(13,.slice (some ⟨gb,0,none⟩) n bc),(14,.slice va m vc)] T' → To0 Try.prog Post Z V' (G ((base 31).at ⟨T',[]⟩ kt) cs0)) →
   To0 Try.prog Post Z V (G ((base 31).at ⟨T,[]⟩ (.code zLA :: .inLoop zLA :: .inBlock 0 :: kt)) cs0):=by
 intro q
 induction q with
 | zero =>
   intro k m va vc V T hq hmk Rj hT K
   refine (fun (h : ∀ Y,Y = zLA → To0 Try.prog Post Z V (G ((base 31).at ⟨T,[]⟩ (.code Y :: .inLoop zLA :: .inBlock 0 :: kt)) cs0))=>h zLA rfl) ?_
   intro Y hY
   rw [zLA_eq] at hY
   subst hY
   refine mu_seq mu_to0 (mu_seq mu_to0 ?_)
   refine z_r8 (x:=false) Rj.nrm hm (decide_eq_false (by omega)) hT fun T1 hT1 h34=>?_
   refine mu_cond mu_to0 false (cond_atZ h34) ?_
   refine mu_exit mu_to0 rfl ?_
   obtain rfl : k = Rn * n:=by omega
   obtain ⟨hs,h0,h2,h9,h10,h11,h12,h13,h14,h15,-⟩:=hT1
   exact K va m vc V T1 Rj hmk ⟨hs,h0,h9,h10,h11,h12,h13,h14,trivial⟩
 | succ q ih =>
   intro k m va vc V T hq hmk Rj hT K
   refine (fun (h : ∀ Y,Y = zLA → To0 Try.prog Post Z V (G ((base 31).at ⟨T,[]⟩ (.code Y :: .inLoop zLA :: .inBlock 0 :: kt)) cs0))=>h zLA rfl) ?_
   intro Y hY
   rw [zLA_eq] at hY
   subst hY
   have h0n : 0 < n:=by
     apply Nat.pos_of_ne_zero
     intro h
     subst h
     simp at hq
   have hn9 : n < 1000000:=by
     by_cases h : 0 < Rn
     · exact Nat.lt_of_le_of_lt (Nat.le_mul_of_pos_left n h) hm
     · obtain rfl : Rn = 0:=by omega
       simp at hq
   refine mu_seq mu_to0 (mu_seq mu_to0 ?_)
   refine z_r8 (x:=true) Rj.nrm hm (decide_eq_true (by omega)) hT fun T1 hT1 h34=>?_
   refine mu_cond mu_to0 true (cond_atZ h34) ?_
   refine mu_skip mu_to0 (mu_seq mu_to0 (mu_block mu_to0 ?_))
   have hal : (ps ++ rng n k).length = m:=by simp [rng,hmk]
   have hra:=Rj.a
   rw [hal] at hra
   refine z_r10 Rj.nrm h0n hn9 (by omega) rfl hra (by omega) hT1 fun T2 V2 wa wc hT2 n2 r2 s2 k2 o2=>?_
   have R2:=Rj.adda (q:=((k % n : Nat) : Int)) n2 (hal ▸ r2) s2 k2 o2
   have e : ps ++ rng n k ++ [((k % n : Nat) : Int)] = ps ++ rng n (k + 1):=by simp [rng,List.range_succ]
   rw [e] at R2
   refine mu_inBlock mu_to0 ?_
   refine z_r9 n2 (by omega) hT2 fun T3 hT3=>?_
   refine mu_inLoop mu_to0 ?_
   exact ih (k + 1) (m + 1) wa wc V2 T3 (by omega) (by omega) R2 hT3 K
theorem z_lb {va : Option Addr} {m vc : Nat} {all : List Int} (hR : Rw3 V0 la n acts ra rc) (hA : ∀ j,j < n → ∀ y ∈ acts j,y.1 = 0 ∨ y.1 = 1 ∨ y.1 = 2 ∨ y.1 = 3) (hlen : ∀ j,j < n → (acts j).length ≤ 20) (hn10 : n ≤ 10) (hm : all.length = m) (hm6 : m < 100000000) : ∀ (q k : Nat) (x : AM × List Nat) (ov lv : Value) (V : World) (T : Array Value),q + k = m → x.2.length + q < 800000000 → RI V0 n gd dc gb bc acts x (.slice va m vc) all ov lv V → Fg 161 [(0,.slice la n lc),(9,ov),(10,lv),(11,.int .i64 x.1.v),(12,.slice (some ⟨gd,0,none⟩) n dc),(13,.slice (some ⟨gb,0,none⟩) n bc),(14,.slice va m vc),(16,.int .i64 (k : Int))] T →
   (∀ ov' lv' V' T',RI V0 n gd dc gb bc acts ((all.drop k).foldl (apk n acts) x) (.slice va m vc) all ov' lv' V' → Fg 161 [(0,.slice la n lc),(9,ov'),(10,lv'),(11,.int .i64 ((all.drop k).foldl (apk n acts) x).1.v)] T' → To0 Try.prog Post Z V' (G ((base 31).at ⟨T',[]⟩ kt) cs0)) →
   To0 Try.prog Post Z V (G ((base 31).at ⟨T,[]⟩ (.code zLB :: .inLoop zLB :: .inBlock 2 :: kt)) cs0):=by
 intro q
 induction q with
 | zero =>
   intro k x ov lv V T hq hx I hT K
   refine (fun (h : ∀ Y,Y = zLB → To0 Try.prog Post Z V (G ((base 31).at ⟨T,[]⟩ (.code Y :: .inLoop zLB :: .inBlock 2 :: kt)) cs0))=>h zLB rfl) ?_
   intro Y hY
   rw [zLB_eq] at hY
   subst hY
   refine mu_seq mu_to0 (mu_seq mu_to0 ?_)
   refine z_r12 (x:=false) (y:=decide ((0 : Int) < (n : Int))) I.rj.nrm (decide_eq_false (by omega)) rfl hT fun T1 hT1 h52=>?_
   refine mu_cond mu_to0 false (cond_atZ h52) ?_
   refine mu_exit mu_to0 rfl ?_
   rw [List.drop_of_length_le (by omega)] at K
   obtain ⟨hs,h0,h9,h10,h11,-⟩:=hT1
   exact K ov lv V T1 I ⟨hs,h0,h9,h10,h11,trivial⟩
 | succ q ih =>
   intro k x ov lv V T hq hx I hT K
   refine (fun (h : ∀ Y,Y = zLB → To0 Try.prog Post Z V (G ((base 31).at ⟨T,[]⟩ (.code Y :: .inLoop zLB :: .inBlock 2 :: kt)) cs0))=>h zLB rfl) ?_
   intro Y hY
   rw [zLB_eq] at hY
   subst hY
   refine mu_seq mu_to0 (mu_seq mu_to0 ?_)
   by_cases h0 : 0 < n
   · refine z_r12 (x:=true) (y:=true) I.rj.nrm (decide_eq_true (by omega)) (decide_eq_true (by omega)) hT fun T1 hT1 h52=>?_
     refine mu_cond mu_to0 true (cond_atZ h52) ?_
     refine mu_skip mu_to0 (mu_seq mu_to0 (mu_block mu_to0 ?_))
     have hk : k < all.length:=by omega
     refine z_turn I hR hA hlen hn10 h0 hm hk (by omega) hT1 fun T2 V2 ov2 lv2 I2 hT2=>?_
     refine z_r13 I2.rj.nrm (by omega) hT2 fun T3 hT3=>?_
     refine mu_inLoop mu_to0 ?_
     have hl:=(amstp_len acts x (pidx n (all[k]'hk))).1
     refine ih (k + 1) _ ov2 lv2 V2 T3 (by omega) (by omega) I2 hT3 fun ov3 lv3 V3 T4 I3 hT4=>?_
     have e : (all.drop k).foldl (apk n acts) x = (all.drop (k + 1)).foldl (apk n acts) (amstp acts x (pidx n (all[k]'hk))):=by
       rw [List.drop_eq_getElem_cons hk,List.foldl_cons]
       have e : apk n acts x (all[k]'hk) = amstp acts x (pidx n (all[k]'hk)):=if_neg (by omega)
       rw [e]
     rw [e] at K
     exact K ov3 lv3 V3 T4 I3 hT4
   · obtain rfl : n = 0:=by omega
     refine z_r12 (x:=true) (y:=false) I.rj.nrm (decide_eq_true (by omega)) rfl hT fun T1 hT1 h52=>?_
     refine mu_cond mu_to0 false (cond_atZ h52) ?_
     refine mu_exit mu_to0 rfl ?_
     rw [apk_zero] at K
     obtain ⟨hs,h0,h9,h10,h11,-⟩:=hT1
     exact K ov lv V T1 I ⟨hs,h0,h9,h10,h11,trivial⟩
theorem run31_go (hn : norm V = V) (hR : Rw3 V la n acts ra rc) (hA : ∀ j,j < n → ∀ y ∈ acts j,y.1 = 0 ∨ y.1 = 1 ∨ y.1 = 2 ∨ y.1 = 3) (hlen : ∀ j,j < n → (acts j).length ≤ 20) (hn10 : n ≤ 10) (hpl : ps.length = pl) (hp : 0 < pl → ∃ g o,pa = some ⟨g,o,none⟩ ∧ ∀ j (hj : j < ps.length),V.cell? ⟨g,o + j,none⟩ = some (.int .i64 (ps[j]'hj))) (hpb : pl < 100000) (hRn : Rn < 1000)
   (K : ∀ V' ov lv,norm V' = V' → Kp V V' → V'.ownsRow 0 3 1 ov (arun n acts Rn ps).2.length (ints (arun n acts Rn ps).2) → V'.ownsRow 0 67 4 lv (arun n acts Rn ps).1.log.length (ents (arun n acts Rn ps).1.log) → (∀ b,ov.ownBlock = some b → V.heap.size ≤ b) → (∀ b,lv.ownBlock = some b → V.heap.size ≤ b) → To0 Try.prog Post Z V' (G (b₀.at (a₀.put ((ops₀[i₀]?).bind (·.dst)) (.tuple #[ov,lv,.int .i64 (arun n acts Rn ps).1.v])) (.inRegion ops₀ rest₀ :: k₀)) cs0)) :
   To0 Try.prog Post Z V (G (Frame.enter Try.prog 31 #[.slice la n lc,.slice pa pl pc,.int .i64 (Rn : Int)] .normal) (b₀.at a₀ (.inRegion ops₀ (i₀ :: rest₀) :: k₀) :: cs0)):=by
 rw [enter_at (P:=Try.prog) _ Try.func31 rfl]
 refine (fun (h : ∀ T : Array Value,Fg 161 [(0,.slice la n lc),(1,.slice pa pl pc),(2,.int .i64 (Rn : Int))] T → To0 Try.prog Post Z V (G ((base 31).at ⟨T,[]⟩ [.code Z31]) (b₀.at a₀ (.inRegion ops₀ (i₀ :: rest₀) :: k₀) :: cs0)))=>h _ ⟨by simp [Try.f31],by simp,by simp,by simp,trivial⟩) ?_
 intro T hT
 rw [Z31_eq]
 refine mu_seq mu_to0 ?_
 refine z_r0 hn hT fun T hT=>?_
 refine mu_seq mu_to0 ?_
 refine z_r1 hn hT fun T hT=>?_
 refine mu_seq mu_to0 ?_
 refine z_r2 hn hT fun T hT=>?_
 refine mu_seq mu_to0 ?_
 refine z_r3 hn hT fun T hT=>?_
 refine mu_seq mu_to0 ?_
 refine z_r4 hn (by omega) hT fun T V1 hT n1 k1 s1 e1=>?_
 refine mu_seq mu_to0 ?_
 refine z_r5 n1 (by omega) hT fun T V2 hT n2 k2 s2 e2=>?_
 refine mu_seq mu_to0 ?_
 have k02:=k1.trans k2
 refine z_r6 n2 hpl (fun h0=>by
   obtain ⟨g,o,e,hc⟩:=hp h0
   exact ⟨g,o,e,fun j hj=>k02.cell (hc j hj)⟩) (by omega) hT fun T V3 va vc hT n3 k3 r3 o3=>?_
 have d3 : V3.heap[V.heap.size]? = some (.cells (madeCells #[.int .i64 0] n) 3 (0,0)):=(k3.keep _ (by omega)).trans ((k2.keep _ (by omega)).trans e1)
 have b3 : V3.heap[V1.heap.size]? = some (.cells (madeCells #[.bool false] n) 4 (0,0)):=(k3.keep _ (by omega)).trans e2
 have hdn : dnA acts azero = tzero.at_:=by funext j; rfl
 have hz : ∀ V : World,V.ownsRow 0 67 4 (.slice none 0 0) 0 []:=fun V=>⟨rfl,.inl ⟨rfl,rfl⟩⟩
 have hz3 : ∀ V : World,V.ownsRow 0 3 1 (.slice none 0 0) 0 []:=fun V=>⟨rfl,.inl ⟨rfl,rfl⟩⟩
 have Rj : RJ V n V.heap.size n V1.heap.size n (dnA acts azero) (bnA azero) [] [] (.slice va pl vc) ps (.slice none 0 0) (.slice none 0 0) V3:=by
   refine ⟨n3,k02.trans k3,hz3 _,hz _,?_,?_,r3,⟨Nat.le_refl _,by omega⟩,fun b hb=>(by cases hb),fun b hb=>(by cases hb),fun b hb=>⟨by have:=o3 b hb; have:=k02.size; omega,by have:=o3 b hb; omega⟩⟩
   · rw [hdn,← rep_rowN]
     exact made_row (by omega) d3
   · rw [← rep_rowB n (bnA azero) fun j=>rfl]
     exact made_row (by omega) b3
 have hmul : Rn * n ≤ 1000 * 10:=Nat.mul_le_mul (by omega) hn10
 refine mu_seq mu_to0 (mu_seq mu_to0 ?_)
 refine z_r7 n3 hT fun T hT=>?_
 refine mu_block mu_to0 (mu_loop mu_to0 ?_)
 refine z_la (ps:=ps) (by omega) (by omega) (Rn * n) 0 pl va vc V3 T (by omega) (by omega) (by rw [show rng n 0 = [] from rfl,List.append_nil]; exact Rj) hT fun wa m wc V4 T4 R4 hm hT4=>?_
 have hal : (ps ++ rng n (Rn * n)).length = m:=by simp [rng,hm]
 refine mu_seq mu_to0 (mu_seq mu_to0 ?_)
 refine z_r11 R4.nrm hT4 fun T5 hT5=>?_
 refine mu_block mu_to0 (mu_loop mu_to0 ?_)
 refine z_lb hR hA hlen hn10 hal (by omega) m 0 (azero,[]) _ _ V4 T5 (by omega) (by show 0 + m < _; omega) ⟨R4,fun j _=>Nat.zero_le _,Nat.zero_le _⟩ hT5 fun ov' lv' V5 T6 I6 hT6=>?_
 rw [List.drop_zero,arun_eq] at I6 hT6
 obtain ⟨hs,h0,h9,h10,h11,-⟩:=hT6
 exact mu_seq mu_to0 (z_out I6.rj.nrm ⟨hs,h9,h10,h11,trivial⟩ (K V5 ov' lv' I6.rj.nrm I6.rj.kp I6.rj.o I6.rj.l (fun b hb=>(I6.rj.oo b hb).1) I6.rj.ll))
end
end Go.Proofs.Ytibcdikfbhmheaa
