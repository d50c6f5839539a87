import Derived.Test.YtibcdikfbhmheaaB22
import Derived.Test.YtibcdikfbhmheaaB16
import Derived.Conc.AtomicLaws2
import Derived.Test.YtibcdikfbhmheaaB20
set_option linter.unusedSimpArgs false
set_option linter.unusedVariables false
set_option maxRecDepth 100000
set_option maxHeartbeats 4000000
namespace Go.Proofs.Ytibcdikfbhmheaa
open Go Go.Conc Go.Proofs
open Go.ConcN (sumTo upd sumTo_upd upd_ne upd_same)
set_option linter.unusedVariables false
section
variable {K : Goroutine → Prop} {V : World} {tb rb kb : Nat} {b₀ : Frame} {a₀ : Act} {ops₀ : Array Oper} {i₀ : Nat} {rest₀ : List Nat} {k₀ : List Item} {cs0 : List Frame}
theorem nil45a (hK : Mu Try.prog (fun _=>True) K) (hV : MuV Try.prog Lone V K) (h : K (G (b₀.at (a₀.put ((ops₀[i₀]?).bind (·.dst)) (.int .i64 1)) (.inRegion ops₀ rest₀ :: k₀)) cs0)) :
   K (G (Frame.enter Try.prog 45 #[.pointer none,.pointer (some ⟨tb,0,none⟩)] .normal) (b₀.at a₀ (.inRegion ops₀ (i₀ :: rest₀) :: k₀) :: cs0)):=by
 rw [enter_at (P:=Try.prog) _ Try.func45 rfl]
 simp only [Try.f45]
 walk_nrm
 repeat (first|(with_reducible first|refine mu_seq hK ?_|refine mu_skip hK ?_|(refine mu_region_end hK ?_;try subst hkk)|refine mu_block hK ?_|refine mu_inBlock hK ?_|refine mu_ret hK ?_|refine mu_end hK ?_)|refine mu_exit hK rfl ?_|(with_reducible refine mu_regionH hK (fun kk hkk=>?_);simp only [List.size_toArray,List.length_cons,List.length_nil,Nat.reduceAdd,Nat.zero_add,List.range,List.range.loop])|(with_reducible refine mu_cf hK ?_ ?_;(· first|(walk_nrm;done)|(simp [Act.eval];done)))|(with_reducible refine mu_ct hK ?_ ?_;(· first|(walk_nrm;done)|(simp [Act.eval];done)))|(refine mu_unwanted hK rfl rfl ?_;walk_nrm)|(refine muv_val hV rfl (by first|exact .inl rfl|exact .inr rfl) rfl (by kernel_rfl) (fun J hJ=>?_);go_simp;with_reducible refine hJ _ ?_;clear hJ J;walk_nrm))
 refine mu_leave1 hK rfl rfl Try.func45 rfl ?_
 exact h
theorem nil45b (hK : Mu Try.prog (fun _=>True) K) (hV : MuV Try.prog Lone V K) (h : K (G (b₀.at (a₀.put ((ops₀[i₀]?).bind (·.dst)) (.int .i64 1)) (.inRegion ops₀ rest₀ :: k₀)) cs0)) :
   K (G (Frame.enter Try.prog 45 #[.pointer (some ⟨rb,0,none⟩),.pointer none] .normal) (b₀.at a₀ (.inRegion ops₀ (i₀ :: rest₀) :: k₀) :: cs0)):=by
 rw [enter_at (P:=Try.prog) _ Try.func45 rfl]
 simp only [Try.f45]
 walk_nrm
 repeat (first|(with_reducible first|refine mu_seq hK ?_|refine mu_skip hK ?_|(refine mu_region_end hK ?_;try subst hkk)|refine mu_block hK ?_|refine mu_inBlock hK ?_|refine mu_ret hK ?_|refine mu_end hK ?_)|refine mu_exit hK rfl ?_|(with_reducible refine mu_regionH hK (fun kk hkk=>?_);simp only [List.size_toArray,List.length_cons,List.length_nil,Nat.reduceAdd,Nat.zero_add,List.range,List.range.loop])|(with_reducible refine mu_cf hK ?_ ?_;(· first|(walk_nrm;done)|(simp [Act.eval];done)))|(with_reducible refine mu_ct hK ?_ ?_;(· first|(walk_nrm;done)|(simp [Act.eval];done)))|(refine mu_unwanted hK rfl rfl ?_;walk_nrm)|(refine muv_val hV rfl (by first|exact .inl rfl|exact .inr rfl) rfl (by kernel_rfl) (fun J hJ=>?_);go_simp;with_reducible refine hJ _ ?_;clear hJ J;walk_nrm))
 refine mu_leave1 hK rfl rfl Try.func45 rfl ?_
 exact h
theorem nil46a (hK : Mu Try.prog (fun _=>True) K) (hV : MuV Try.prog Lone V K) (h : K (G (b₀.at (a₀.put ((ops₀[i₀]?).bind (·.dst)) (.int .i64 1)) (.inRegion ops₀ rest₀ :: k₀)) cs0)) :
   K (G (Frame.enter Try.prog 46 #[.pointer none,.pointer (some ⟨tb,0,none⟩)] .normal) (b₀.at a₀ (.inRegion ops₀ (i₀ :: rest₀) :: k₀) :: cs0)):=by
 rw [enter_at (P:=Try.prog) _ Try.func46 rfl]
 simp only [Try.f46]
 walk_nrm
 repeat (first|(with_reducible first|refine mu_seq hK ?_|refine mu_skip hK ?_|(refine mu_region_end hK ?_;try subst hkk)|refine mu_block hK ?_|refine mu_inBlock hK ?_|refine mu_ret hK ?_|refine mu_end hK ?_)|refine mu_exit hK rfl ?_|(with_reducible refine mu_regionH hK (fun kk hkk=>?_);simp only [List.size_toArray,List.length_cons,List.length_nil,Nat.reduceAdd,Nat.zero_add,List.range,List.range.loop])|(with_reducible refine mu_cf hK ?_ ?_;(· first|(walk_nrm;done)|(simp [Act.eval];done)))|(with_reducible refine mu_ct hK ?_ ?_;(· first|(walk_nrm;done)|(simp [Act.eval];done)))|(refine mu_unwanted hK rfl rfl ?_;walk_nrm)|(refine muv_val hV rfl (by first|exact .inl rfl|exact .inr rfl) rfl (by kernel_rfl) (fun J hJ=>?_);go_simp;with_reducible refine hJ _ ?_;clear hJ J;walk_nrm))
 refine mu_leave1 hK rfl rfl Try.func46 rfl ?_
 exact h
theorem nil46b (hK : Mu Try.prog (fun _=>True) K) (hV : MuV Try.prog Lone V K) (h : K (G (b₀.at (a₀.put ((ops₀[i₀]?).bind (·.dst)) (.int .i64 1)) (.inRegion ops₀ rest₀ :: k₀)) cs0)) :
   K (G (Frame.enter Try.prog 46 #[.pointer (some ⟨rb,0,none⟩),.pointer none] .normal) (b₀.at a₀ (.inRegion ops₀ (i₀ :: rest₀) :: k₀) :: cs0)):=by
 rw [enter_at (P:=Try.prog) _ Try.func46 rfl]
 simp only [Try.f46]
 walk_nrm
 repeat (first|(with_reducible first|refine mu_seq hK ?_|refine mu_skip hK ?_|(refine mu_region_end hK ?_;try subst hkk)|refine mu_block hK ?_|refine mu_inBlock hK ?_|refine mu_ret hK ?_|refine mu_end hK ?_)|refine mu_exit hK rfl ?_|(with_reducible refine mu_regionH hK (fun kk hkk=>?_);simp only [List.size_toArray,List.length_cons,List.length_nil,Nat.reduceAdd,Nat.zero_add,List.range,List.range.loop])|(with_reducible refine mu_cf hK ?_ ?_;(· first|(walk_nrm;done)|(simp [Act.eval];done)))|(with_reducible refine mu_ct hK ?_ ?_;(· first|(walk_nrm;done)|(simp [Act.eval];done)))|(refine mu_unwanted hK rfl rfl ?_;walk_nrm)|(refine muv_val hV rfl (by first|exact .inl rfl|exact .inr rfl) rfl (by kernel_rfl) (fun J hJ=>?_);go_simp;with_reducible refine hJ _ ?_;clear hJ J;walk_nrm))
 refine mu_leave1 hK rfl rfl Try.func46 rfl ?_
 exact h
theorem nil49a (hK : Mu Try.prog (fun _=>True) K) (hV : MuV Try.prog Lone V K) (h : K (G (b₀.at (a₀.put ((ops₀[i₀]?).bind (·.dst)) (.int .i64 1)) (.inRegion ops₀ rest₀ :: k₀)) cs0)) :
   K (G (Frame.enter Try.prog 49 #[.pointer none,.pointer (some ⟨tb,0,none⟩),.pointer (some ⟨rb,0,none⟩)] .normal) (b₀.at a₀ (.inRegion ops₀ (i₀ :: rest₀) :: k₀) :: cs0)):=by
 rw [enter_at (P:=Try.prog) _ Try.func49 rfl]
 simp only [Try.f49]
 walk_nrm
 repeat (first|(with_reducible first|refine mu_seq hK ?_|refine mu_skip hK ?_|(refine mu_region_end hK ?_;try subst hkk)|refine mu_block hK ?_|refine mu_inBlock hK ?_|refine mu_ret hK ?_|refine mu_end hK ?_)|refine mu_exit hK rfl ?_|(with_reducible refine mu_regionH hK (fun kk hkk=>?_);simp only [List.size_toArray,List.length_cons,List.length_nil,Nat.reduceAdd,Nat.zero_add,List.range,List.range.loop])|(with_reducible refine mu_cf hK ?_ ?_;(· first|(walk_nrm;done)|(simp [Act.eval];done)))|(with_reducible refine mu_ct hK ?_ ?_;(· first|(walk_nrm;done)|(simp [Act.eval];done)))|(refine mu_unwanted hK rfl rfl ?_;walk_nrm)|(refine muv_val hV rfl (by first|exact .inl rfl|exact .inr rfl) rfl (by kernel_rfl) (fun J hJ=>?_);go_simp;with_reducible refine hJ _ ?_;clear hJ J;walk_nrm))
 refine mu_leave1 hK rfl rfl Try.func49 rfl ?_
 exact h
theorem nil49b (hK : Mu Try.prog (fun _=>True) K) (hV : MuV Try.prog Lone V K) (h : K (G (b₀.at (a₀.put ((ops₀[i₀]?).bind (·.dst)) (.int .i64 1)) (.inRegion ops₀ rest₀ :: k₀)) cs0)) :
   K (G (Frame.enter Try.prog 49 #[.pointer (some ⟨kb,0,none⟩),.pointer (some ⟨tb,0,none⟩),.pointer none] .normal) (b₀.at a₀ (.inRegion ops₀ (i₀ :: rest₀) :: k₀) :: cs0)):=by
 rw [enter_at (P:=Try.prog) _ Try.func49 rfl]
 simp only [Try.f49]
 walk_nrm
 repeat (first|(with_reducible first|refine mu_seq hK ?_|refine mu_skip hK ?_|(refine mu_region_end hK ?_;try subst hkk)|refine mu_block hK ?_|refine mu_inBlock hK ?_|refine mu_ret hK ?_|refine mu_end hK ?_)|refine mu_exit hK rfl ?_|(with_reducible refine mu_regionH hK (fun kk hkk=>?_);simp only [List.size_toArray,List.length_cons,List.length_nil,Nat.reduceAdd,Nat.zero_add,List.range,List.range.loop])|(with_reducible refine mu_cf hK ?_ ?_;(· first|(walk_nrm;done)|(simp [Act.eval];done)))|(with_reducible refine mu_ct hK ?_ ?_;(· first|(walk_nrm;done)|(simp [Act.eval];done)))|(refine mu_unwanted hK rfl rfl ?_;walk_nrm)|(refine muv_val hV rfl (by first|exact .inl rfl|exact .inr rfl) rfl (by kernel_rfl) (fun J hJ=>?_);go_simp;with_reducible refine hJ _ ?_;clear hJ J;walk_nrm))
 refine mu_leave1 hK rfl rfl Try.func49 rfl ?_
 exact h
theorem nil49c (hK : Mu Try.prog (fun _=>True) K) (hV : MuV Try.prog Lone V K) (h : K (G (b₀.at (a₀.put ((ops₀[i₀]?).bind (·.dst)) (.int .i64 1)) (.inRegion ops₀ rest₀ :: k₀)) cs0)) :
   K (G (Frame.enter Try.prog 49 #[.pointer (some ⟨kb,0,none⟩),.pointer none,.pointer (some ⟨rb,0,none⟩)] .normal) (b₀.at a₀ (.inRegion ops₀ (i₀ :: rest₀) :: k₀) :: cs0)):=by
 rw [enter_at (P:=Try.prog) _ Try.func49 rfl]
 simp only [Try.f49]
 walk_nrm
 repeat (first|(with_reducible first|refine mu_seq hK ?_|refine mu_skip hK ?_|(refine mu_region_end hK ?_;try subst hkk)|refine mu_block hK ?_|refine mu_inBlock hK ?_|refine mu_ret hK ?_|refine mu_end hK ?_)|refine mu_exit hK rfl ?_|(with_reducible refine mu_regionH hK (fun kk hkk=>?_);simp only [List.size_toArray,List.length_cons,List.length_nil,Nat.reduceAdd,Nat.zero_add,List.range,List.range.loop])|(with_reducible refine mu_cf hK ?_ ?_;(· first|(walk_nrm;done)|(simp [Act.eval];done)))|(with_reducible refine mu_ct hK ?_ ?_;(· first|(walk_nrm;done)|(simp [Act.eval];done)))|(refine mu_unwanted hK rfl rfl ?_;walk_nrm)|(refine muv_val hV rfl (by first|exact .inl rfl|exact .inr rfl) rfl (by kernel_rfl) (fun J hJ=>?_);go_simp;with_reducible refine hJ _ ?_;clear hJ J;walk_nrm))
 refine mu_leave1 hK rfl rfl Try.func49 rfl ?_
 exact h
theorem nil58a (hK : Mu Try.prog (fun _=>True) K) (hV : MuV Try.prog Lone V K) (h : K (G (b₀.at (a₀.put ((ops₀[i₀]?).bind (·.dst)) (.int .i64 1)) (.inRegion ops₀ rest₀ :: k₀)) cs0)) :
   K (G (Frame.enter Try.prog 58 #[.pointer none,.pointer (some ⟨tb,0,none⟩)] .normal) (b₀.at a₀ (.inRegion ops₀ (i₀ :: rest₀) :: k₀) :: cs0)):=by
 rw [enter_at (P:=Try.prog) _ Try.func58 rfl]
 simp only [Try.f58]
 walk_nrm
 repeat (first|(with_reducible first|refine mu_seq hK ?_|refine mu_skip hK ?_|(refine mu_region_end hK ?_;try subst hkk)|refine mu_block hK ?_|refine mu_inBlock hK ?_|refine mu_ret hK ?_|refine mu_end hK ?_)|refine mu_exit hK rfl ?_|(with_reducible refine mu_regionH hK (fun kk hkk=>?_);simp only [List.size_toArray,List.length_cons,List.length_nil,Nat.reduceAdd,Nat.zero_add,List.range,List.range.loop])|(with_reducible refine mu_cf hK ?_ ?_;(· first|(walk_nrm;done)|(simp [Act.eval];done)))|(with_reducible refine mu_ct hK ?_ ?_;(· first|(walk_nrm;done)|(simp [Act.eval];done)))|(refine mu_unwanted hK rfl rfl ?_;walk_nrm)|(refine muv_val hV rfl (by first|exact .inl rfl|exact .inr rfl) rfl (by kernel_rfl) (fun J hJ=>?_);go_simp;with_reducible refine hJ _ ?_;clear hJ J;walk_nrm))
 refine mu_leave1 hK rfl rfl Try.func58 rfl ?_
 exact h
theorem nil58b (hK : Mu Try.prog (fun _=>True) K) (hV : MuV Try.prog Lone V K) (h : K (G (b₀.at (a₀.put ((ops₀[i₀]?).bind (·.dst)) (.int .i64 1)) (.inRegion ops₀ rest₀ :: k₀)) cs0)) :
   K (G (Frame.enter Try.prog 58 #[.pointer (some ⟨kb,0,none⟩),.pointer none] .normal) (b₀.at a₀ (.inRegion ops₀ (i₀ :: rest₀) :: k₀) :: cs0)):=by
 rw [enter_at (P:=Try.prog) _ Try.func58 rfl]
 simp only [Try.f58]
 walk_nrm
 repeat (first|(with_reducible first|refine mu_seq hK ?_|refine mu_skip hK ?_|(refine mu_region_end hK ?_;try subst hkk)|refine mu_block hK ?_|refine mu_inBlock hK ?_|refine mu_ret hK ?_|refine mu_end hK ?_)|refine mu_exit hK rfl ?_|(with_reducible refine mu_regionH hK (fun kk hkk=>?_);simp only [List.size_toArray,List.length_cons,List.length_nil,Nat.reduceAdd,Nat.zero_add,List.range,List.range.loop])|(with_reducible refine mu_cf hK ?_ ?_;(· first|(walk_nrm;done)|(simp [Act.eval];done)))|(with_reducible refine mu_ct hK ?_ ?_;(· first|(walk_nrm;done)|(simp [Act.eval];done)))|(refine mu_unwanted hK rfl rfl ?_;walk_nrm)|(refine muv_val hV rfl (by first|exact .inl rfl|exact .inr rfl) rfl (by kernel_rfl) (fun J hJ=>?_);go_simp;with_reducible refine hJ _ ?_;clear hJ J;walk_nrm))
 refine mu_leave1 hK rfl rfl Try.func58 rfl ?_
 exact h
theorem nil51a (hK : Mu Try.prog (fun _=>True) K) (hV : MuV Try.prog Lone V K) (h : K (G (b₀.at (a₀.put ((ops₀[i₀]?).bind (·.dst)) (.int .i64 1)) (.inRegion ops₀ rest₀ :: k₀)) cs0)) :
   K (G (Frame.enter Try.prog 51 #[.pointer none,.pointer (some ⟨tb,0,none⟩)] .normal) (b₀.at a₀ (.inRegion ops₀ (i₀ :: rest₀) :: k₀) :: cs0)):=by
 rw [enter_at (P:=Try.prog) _ Try.func51 rfl]
 simp only [Try.f51]
 walk_nrm
 repeat (first|(with_reducible first|refine mu_seq hK ?_|refine mu_skip hK ?_|(refine mu_region_end hK ?_;try subst hkk)|refine mu_block hK ?_|refine mu_inBlock hK ?_|refine mu_ret hK ?_|refine mu_end hK ?_)|refine mu_exit hK rfl ?_|(with_reducible refine mu_regionH hK (fun kk hkk=>?_);simp only [List.size_toArray,List.length_cons,List.length_nil,Nat.reduceAdd,Nat.zero_add,List.range,List.range.loop])|(with_reducible refine mu_cf hK ?_ ?_;(· first|(walk_nrm;done)|(simp [Act.eval];done)))|(with_reducible refine mu_ct hK ?_ ?_;(· first|(walk_nrm;done)|(simp [Act.eval];done)))|(refine mu_unwanted hK rfl rfl ?_;walk_nrm)|(refine muv_val hV rfl (by first|exact .inl rfl|exact .inr rfl) rfl (by kernel_rfl) (fun J hJ=>?_);go_simp;with_reducible refine hJ _ ?_;clear hJ J;walk_nrm))
 refine mu_leave1 hK rfl rfl Try.func51 rfl ?_
 exact h
theorem nil51b (hK : Mu Try.prog (fun _=>True) K) (hV : MuV Try.prog Lone V K) (h : K (G (b₀.at (a₀.put ((ops₀[i₀]?).bind (·.dst)) (.int .i64 1)) (.inRegion ops₀ rest₀ :: k₀)) cs0)) :
   K (G (Frame.enter Try.prog 51 #[.pointer (some ⟨kb,0,none⟩),.pointer none] .normal) (b₀.at a₀ (.inRegion ops₀ (i₀ :: rest₀) :: k₀) :: cs0)):=by
 rw [enter_at (P:=Try.prog) _ Try.func51 rfl]
 simp only [Try.f51]
 walk_nrm
 repeat (first|(with_reducible first|refine mu_seq hK ?_|refine mu_skip hK ?_|(refine mu_region_end hK ?_;try subst hkk)|refine mu_block hK ?_|refine mu_inBlock hK ?_|refine mu_ret hK ?_|refine mu_end hK ?_)|refine mu_exit hK rfl ?_|(with_reducible refine mu_regionH hK (fun kk hkk=>?_);simp only [List.size_toArray,List.length_cons,List.length_nil,Nat.reduceAdd,Nat.zero_add,List.range,List.range.loop])|(with_reducible refine mu_cf hK ?_ ?_;(· first|(walk_nrm;done)|(simp [Act.eval];done)))|(with_reducible refine mu_ct hK ?_ ?_;(· first|(walk_nrm;done)|(simp [Act.eval];done)))|(refine mu_unwanted hK rfl rfl ?_;walk_nrm)|(refine muv_val hV rfl (by first|exact .inl rfl|exact .inr rfl) rfl (by kernel_rfl) (fun J hJ=>?_);go_simp;with_reducible refine hJ _ ?_;clear hJ J;walk_nrm))
 refine mu_leave1 hK rfl rfl Try.func51 rfl ?_
 exact h
theorem own47a (hK : Mu Try.prog (fun _=>True) K) (hV : MuV Try.prog Lone V K) (h : K (G (b₀.at (a₀.put ((ops₀[i₀]?).bind (·.dst)) (.int .i64 (-1))) (.inRegion ops₀ rest₀ :: k₀)) cs0)) :
   K (G (Frame.enter Try.prog 47 #[.pointer none] .normal) (b₀.at a₀ (.inRegion ops₀ (i₀ :: rest₀) :: k₀) :: cs0)):=by
 rw [enter_at (P:=Try.prog) _ Try.func47 rfl]
 simp only [Try.f47]
 walk_nrm
 repeat (first|(with_reducible first|refine mu_seq hK ?_|refine mu_skip hK ?_|(refine mu_region_end hK ?_;try subst hkk)|refine mu_block hK ?_|refine mu_inBlock hK ?_|refine mu_ret hK ?_|refine mu_end hK ?_)|refine mu_exit hK rfl ?_|(with_reducible refine mu_regionH hK (fun kk hkk=>?_);simp only [List.size_toArray,List.length_cons,List.length_nil,Nat.reduceAdd,Nat.zero_add,List.range,List.range.loop])|(with_reducible refine mu_cf hK ?_ ?_;(· first|(walk_nrm;done)|(simp [Act.eval];done)))|(with_reducible refine mu_ct hK ?_ ?_;(· first|(walk_nrm;done)|(simp [Act.eval];done)))|(refine mu_unwanted hK rfl rfl ?_;walk_nrm)|(refine muv_val hV rfl (by first|exact .inl rfl|exact .inr rfl) rfl (by kernel_rfl) (fun J hJ=>?_);go_simp;with_reducible refine hJ _ ?_;clear hJ J;walk_nrm))
 refine mu_leave1 hK rfl rfl Try.func47 rfl ?_
 exact h
theorem own47b (hK : Mu Try.prog (fun _=>True) K) (hV : MuV Try.prog Lone V K) (hc : ∀ τ,(re V τ 0).cell? ⟨rb,1,none⟩ = some (.int .i64 0)) (h : K (G (b₀.at (a₀.put ((ops₀[i₀]?).bind (·.dst)) (.int .i64 (-1))) (.inRegion ops₀ rest₀ :: k₀)) cs0)) :
   K (G (Frame.enter Try.prog 47 #[.pointer (some ⟨rb,0,none⟩)] .normal) (b₀.at a₀ (.inRegion ops₀ (i₀ :: rest₀) :: k₀) :: cs0)):=by
 rw [enter_at (P:=Try.prog) _ Try.func47 rfl]
 simp only [Try.f47]
 walk_nrm
 repeat (first|(with_reducible first|refine mu_seq hK ?_|refine mu_skip hK ?_|(refine mu_region_end hK ?_;try subst hkk)|refine mu_block hK ?_|refine mu_inBlock hK ?_|refine mu_ret hK ?_|refine mu_end hK ?_)|refine mu_exit hK rfl ?_|(with_reducible refine mu_regionH hK (fun kk hkk=>?_);simp only [List.size_toArray,List.length_cons,List.length_nil,Nat.reduceAdd,Nat.zero_add,List.range,List.range.loop])|(with_reducible refine mu_cf hK ?_ ?_;(· first|(walk_nrm;done)|(simp [Act.eval];done)))|(with_reducible refine mu_ct hK ?_ ?_;(· first|(walk_nrm;done)|(simp [Act.eval];done)))|(refine mu_unwanted hK rfl rfl ?_;walk_nrm)|(refine muv_val hV rfl (by first|exact .inl rfl|exact .inr rfl) rfl (by kernel_rfl) (fun J hJ=>?_);go_simp;with_reducible refine hJ _ ?_;clear hJ J;walk_nrm))
 refine mu_leave1 hK rfl rfl Try.func47 rfl ?_
 exact h
theorem wai52a (hK : Mu Try.prog (fun _=>True) K) (hV : MuV Try.prog Lone V K) (h : K (G (b₀.at (a₀.put ((ops₀[i₀]?).bind (·.dst)) (.int .i64 0)) (.inRegion ops₀ rest₀ :: k₀)) cs0)) :
   K (G (Frame.enter Try.prog 52 #[.pointer none] .normal) (b₀.at a₀ (.inRegion ops₀ (i₀ :: rest₀) :: k₀) :: cs0)):=by
 rw [enter_at (P:=Try.prog) _ Try.func52 rfl]
 simp only [Try.f52]
 walk_nrm
 repeat (first|(with_reducible first|refine mu_seq hK ?_|refine mu_skip hK ?_|(refine mu_region_end hK ?_;try subst hkk)|refine mu_block hK ?_|refine mu_inBlock hK ?_|refine mu_ret hK ?_|refine mu_end hK ?_)|refine mu_exit hK rfl ?_|(with_reducible refine mu_regionH hK (fun kk hkk=>?_);simp only [List.size_toArray,List.length_cons,List.length_nil,Nat.reduceAdd,Nat.zero_add,List.range,List.range.loop])|(with_reducible refine mu_cf hK ?_ ?_;(· first|(walk_nrm;done)|(simp [Act.eval];done)))|(with_reducible refine mu_ct hK ?_ ?_;(· first|(walk_nrm;done)|(simp [Act.eval];done)))|(refine mu_unwanted hK rfl rfl ?_;walk_nrm)|(refine muv_val hV rfl (by first|exact .inl rfl|exact .inr rfl) rfl (by kernel_rfl) (fun J hJ=>?_);go_simp;with_reducible refine hJ _ ?_;clear hJ J;walk_nrm))
 refine mu_leave1 hK rfl rfl Try.func52 rfl ?_
 exact h
theorem wai52b (hK : Mu Try.prog (fun _=>True) K) (hV : MuV Try.prog Lone V K) (hc : ∀ τ,(re V τ 0).cell? ⟨kb,0,none⟩ = some (.slice none 0 0)) (h : K (G (b₀.at (a₀.put ((ops₀[i₀]?).bind (·.dst)) (.int .i64 0)) (.inRegion ops₀ rest₀ :: k₀)) cs0)) :
   K (G (Frame.enter Try.prog 52 #[.pointer (some ⟨kb,0,none⟩)] .normal) (b₀.at a₀ (.inRegion ops₀ (i₀ :: rest₀) :: k₀) :: cs0)):=by
 rw [enter_at (P:=Try.prog) _ Try.func52 rfl]
 simp only [Try.f52]
 walk_nrm
 repeat (first|(with_reducible first|refine mu_seq hK ?_|refine mu_skip hK ?_|(refine mu_region_end hK ?_;try subst hkk)|refine mu_block hK ?_|refine mu_inBlock hK ?_|refine mu_ret hK ?_|refine mu_end hK ?_)|refine mu_exit hK rfl ?_|(with_reducible refine mu_regionH hK (fun kk hkk=>?_);simp only [List.size_toArray,List.length_cons,List.length_nil,Nat.reduceAdd,Nat.zero_add,List.range,List.range.loop])|(with_reducible refine mu_cf hK ?_ ?_;(· first|(walk_nrm;done)|(simp [Act.eval];done)))|(with_reducible refine mu_ct hK ?_ ?_;(· first|(walk_nrm;done)|(simp [Act.eval];done)))|(refine mu_unwanted hK rfl rfl ?_;walk_nrm)|(refine muv_val hV rfl (by first|exact .inl rfl|exact .inr rfl) rfl (by kernel_rfl) (fun J hJ=>?_);go_simp;with_reducible refine hJ _ ?_;clear hJ J;walk_nrm))
 refine mu_call hK rfl rfl (by decide) rfl Try.func96 (by kernel_rfl) rfl ?_
 simp only [Try.f96]
 walk_nrm
 repeat (first|(with_reducible first|refine mu_seq hK ?_|refine mu_skip hK ?_|(refine mu_region_end hK ?_;try subst hkk)|refine mu_block hK ?_|refine mu_inBlock hK ?_|refine mu_ret hK ?_|refine mu_end hK ?_)|refine mu_exit hK rfl ?_|(with_reducible refine mu_regionH hK (fun kk hkk=>?_);simp only [List.size_toArray,List.length_cons,List.length_nil,Nat.reduceAdd,Nat.zero_add,List.range,List.range.loop])|(with_reducible refine mu_cf hK ?_ ?_;(· first|(walk_nrm;done)|(simp [Act.eval];done)))|(with_reducible refine mu_ct hK ?_ ?_;(· first|(walk_nrm;done)|(simp [Act.eval];done)))|(refine mu_unwanted hK rfl rfl ?_;walk_nrm)|(refine muv_val hV rfl (by first|exact .inl rfl|exact .inr rfl) rfl (by kernel_rfl) (fun J hJ=>?_);go_simp;with_reducible refine hJ _ ?_;clear hJ J;walk_nrm))
 refine mu_leave1 hK rfl rfl Try.func96 rfl ?_
 walk_nrm
 repeat (first|(with_reducible first|refine mu_seq hK ?_|refine mu_skip hK ?_|(refine mu_region_end hK ?_;try subst hkk)|refine mu_block hK ?_|refine mu_inBlock hK ?_|refine mu_ret hK ?_|refine mu_end hK ?_)|refine mu_exit hK rfl ?_|(with_reducible refine mu_regionH hK (fun kk hkk=>?_);simp only [List.size_toArray,List.length_cons,List.length_nil,Nat.reduceAdd,Nat.zero_add,List.range,List.range.loop])|(with_reducible refine mu_cf hK ?_ ?_;(· first|(walk_nrm;done)|(simp [Act.eval];done)))|(with_reducible refine mu_ct hK ?_ ?_;(· first|(walk_nrm;done)|(simp [Act.eval];done)))|(refine mu_unwanted hK rfl rfl ?_;walk_nrm)|(refine muv_val hV rfl (by first|exact .inl rfl|exact .inr rfl) rfl (by kernel_rfl) (fun J hJ=>?_);go_simp;with_reducible refine hJ _ ?_;clear hJ J;walk_nrm))
 refine mu_leave1 hK rfl rfl Try.func52 rfl ?_
 exact h
end
end Go.Proofs.Ytibcdikfbhmheaa

namespace Go.Proofs.Ytibcdikfbhmheaa
open Go Go.Conc Go.Proofs
open Go.ConcN (sumTo upd sumTo_upd upd_ne upd_same)
set_option linter.unusedVariables false
section
variable {P : Program} {K : Goroutine → Prop} {b : Frame} {k : List Item} {cs : List Frame} {ops : Array Oper}
theorem ready_some {listed : Array Bool} {N : Nat} (hN : ops.size = N) (hback : ((List.range N).all fun i=>(ops[i]?).any fun o=>o.after.all fun e=>decide (e.on < i)) = true) (hs : listed.size = N) (h : ∃ i,i < N ∧ listed.getD i false = false) : ∃ i,i ∈ Region.ready .any ops listed:=by
 obtain ⟨i,hi⟩:=h
 induction i using Nat.strongRecOn with
 | _ i ih =>
   by_cases hx : ∃ j,j < i ∧ listed.getD j false = false
   · obtain ⟨j,hj,hl⟩:=hx
     exact ih j hj ⟨by omega,hl⟩
   · refine ⟨i,mem_ready.2 ⟨?_,?_⟩⟩
     · have:=hi.2
       simp [Array.getD_eq_getD_getElem?,Array.getElem?_eq_getElem (show i < listed.size by omega)] at this ⊢
       exact this
     · have h:=List.all_eq_true.1 hback i (List.mem_range.2 hi.1)
       rcases ho : ops[i]? with _ | o
       · rw [ho] at h; cases h
       · rw [ho] at h
         simp only [Option.any_some,Array.all_eq_true',decide_eq_true_eq] at h
         refine ⟨o,rfl,fun e he _=>?_⟩
         have h1:=h e he
         cases hl : listed.getD e.on false with
         | true=>rfl
         | false=>exact absurd ⟨_,h1,hl⟩ hx
def unl (listed : Array Bool) : Nat:=listed.toList.countP fun x=>!x
theorem unl_set {listed : Array Bool} {i : Nat} (hi : i < listed.size) (h : listed.getD i true = false) : unl (listed.setIfInBounds i true) + 1 = unl listed:=by
 have hl : listed.toList[i]'(by simpa using hi) = false:=by
   simpa [Array.getD_eq_getD_getElem?,Array.getElem?_eq_getElem hi] using h
 unfold unl
 rw [Array.toList_setIfInBounds,List.countP_set (by simpa using hi),hl]
 have : 0 < listed.toList.countP fun x=>!x:=List.countP_pos_iff.2 ⟨_,List.getElem_mem (by simpa using hi),by rw [hl]; rfl⟩
 simp only [Bool.not_false,if_true,Bool.not_true,Bool.false_eq_true,if_false]
 omega
theorem order_K {j N : Nat} (hN : ops.size = N) (hback : ((List.range N).all fun i=>(ops[i]?).any fun o=>o.after.all fun e=>decide (e.on < i)) = true)
   (hlast : (ops[j]?).any (fun o=>(List.range N).all fun i=>i == j || o.after.any fun e=>e.on == i && Region.binds .any e) = true) (Inv : Array Bool → Act → Prop)
   (hstep : ∀ listed a i,Inv listed a → listed.size = N → i < N → i ≠ j → i ∈ Region.ready .any ops listed → ∃ a',Inv (listed.setIfInBounds i true) a' ∧ ∀ rest,K (G (b.at a' (.inRegion ops rest :: k)) cs) → K (G (b.at a (.inRegion ops (i :: rest) :: k)) cs))
   (hend : ∀ listed a,Inv listed a → (∀ i,i < N → i ≠ j → listed.getD i false = true) → K (G (b.at a (.inRegion ops [j] :: k)) cs)) :
   ∀ (n t : Nat) (listed : Array Bool) (a : Act),unl listed = n → listed.size = N → listed.getD j true = false → Inv listed a → K (G (b.at a (.inRegion ops (Region.linearise.go .any ops n t listed []) :: k)) cs):=by
 intro n
 induction n with
 | zero =>
   intro t listed a hu hs hj _
   exfalso
   have hjs : j < listed.size:=by
     apply Nat.lt_of_not_le
     intro h
     simp [Array.getD_eq_getD_getElem?,Array.getElem?_eq_none h] at hj
   have:=unl_set hjs hj
   omega
 | succ n ih =>
   intro t listed a hu hs hj hI
   have hjs : j < listed.size:=by
     apply Nat.lt_of_not_le
     intro h
     simp [Array.getD_eq_getD_getElem?,Array.getElem?_eq_none h] at hj
   have hjf : listed.getD j false = false:=by
     simp [Array.getD_eq_getD_getElem?,Array.getElem?_eq_getElem hjs] at hj ⊢; exact hj
   obtain ⟨i0,hi0⟩:=ready_some hN hback hs ⟨j,by omega,hjf⟩
   simp only [Region.linearise.go]
   change K (G (b.at a (.inRegion ops (match (Region.ready .any ops listed)[t % (Region.ready .any ops listed).length]? with
     | some i=>Region.linearise.go .any ops n (t / (Region.ready .any ops listed).length) (listed.setIfInBounds i true) [i]
     | none=>[].reverse) :: k)) cs)
   cases hi : (Region.ready .any ops listed)[t % (Region.ready .any ops listed).length]? with
   | none =>
     exfalso
     cases hr : Region.ready .any ops listed with
     | nil=>rw [hr] at hi0; cases hi0
     | cons x xs =>
       rw [hr] at hi
       have hlt : t % (x :: xs).length < (x :: xs).length:=Nat.mod_lt _ (by simp)
       simp at hi
       simp at hlt
       omega
   | some i =>
     simp only []
     rw [linearise_go_acc,List.reverse_singleton,List.singleton_append]
     have hr:=List.mem_of_getElem? hi
     obtain ⟨h1,o,ho,hall⟩:=mem_ready.1 hr
     have hiN : i < N:=by rw [← hN]; exact (Array.getElem?_eq_some_iff.1 ho).1
     by_cases e : i = j
     · subst e
       have hl : ∀ i',i' < N → i' ≠ i → listed.getD i' false = true:=fun i' h' hne=>by
         rw [ho] at hlast
         simp only [Option.any_some,List.all_eq_true,List.mem_range,Bool.or_eq_true,beq_iff_eq,Array.any_eq_true',Bool.and_eq_true] at hlast
         rcases hlast i' h' with h | ⟨e,he,h2,h3⟩
         · exact absurd h hne
         · have:=hall e he h3
           rw [h2] at this
           exact this
       have hn0 : n = 0:=by
         have h2:=unl_set (by omega) h1
         have h3 : unl (listed.setIfInBounds i true) = 0:=by
           unfold unl
           rw [List.countP_eq_zero]
           intro x hx
           obtain ⟨m,hm,hmx⟩:=List.getElem_of_mem hx
           have hm' : m < listed.size:=by simpa using hm
           by_cases e : m = i
           · subst e
             have : x = true:=by rw [← hmx]; simp
             rw [this]; decide
           · have h5:=hl m (by omega) e
             have : x = true:=by
               rw [← hmx]
               simp [Array.getD_eq_getD_getElem?,Array.getElem?_eq_getElem hm'] at h5
               simp [Array.getElem_setIfInBounds,h5,Ne.symm e]
             rw [this]; decide
         omega
       subst hn0
       exact hend listed a hI hl
     · obtain ⟨a',hI',hk⟩:=hstep listed a i hI hs hiN e hr
       refine hk _ (ih _ _ _ ?_ (by simp [hs]) ?_ hI')
       · have:=unl_set (by omega) h1
         omega
       · rw [getD_set_ne true e]; exact hj
theorem order_go {j N : Nat} {id : Nat} {a : Act} (hD : MuD P K) (hN : ops.size = N) (hback : ((List.range N).all fun i=>(ops[i]?).any fun o=>o.after.all fun e=>decide (e.on < i)) = true)
   (hlast : (ops[j]?).any (fun o=>(List.range N).all fun i=>i == j || o.after.any fun e=>e.on == i && Region.binds .any e) = true) (Inv : Array Bool → Act → Prop) (h0 : Inv (Array.replicate N false) a)
   (hstep : ∀ listed a i,Inv listed a → listed.size = N → i < N → i ≠ j → i ∈ Region.ready .any ops listed → ∃ a',Inv (listed.setIfInBounds i true) a' ∧ ∀ rest,K (G (b.at a' (.inRegion ops rest :: k)) cs) → K (G (b.at a (.inRegion ops (i :: rest) :: k)) cs))
   (hend : ∀ listed a,Inv listed a → (∀ i,i < N → i ≠ j → listed.getD i false = true) → K (G (b.at a (.inRegion ops [j] :: k)) cs)) (hd : Region.departs ops = false:=by kernel_rfl) :
   K (G (b.at a (.code (.region id ops true) :: k)) cs):=by
 refine hD b a k cs id ops fun t=>?_
 unfold Region.schedule Region.linearise
 rw [hd]
 simp only [Bool.not_false,Bool.or_true,if_true]
 rw [hN]
 have hj : j < N:=by
   rw [← hN]
   apply Nat.lt_of_not_le
   intro h
   rw [Array.getElem?_eq_none h] at hlast
   cases hlast
 refine order_K hN hback hlast Inv hstep hend N t _ a ?_ (by simp) ?_ h0
 · unfold unl
   rw [Array.toList_replicate,List.countP_replicate]
   simp
 · simp [Array.getD_eq_getD_getElem?,hj]
end
noncomputable def n57R4 : Code:=nvb (Try.f57.body.getD .skip)
noncomputable def n57o : Array Oper:=rops n57R4
section
variable {K : Goroutine → Prop} {V V' : World} {K' : Goroutine → Prop} {tb mb cb rb kb eb : Nat} {T : Array Value} {b : Frame} {k : List Item} {cs : List Frame} {rest : List Nat}
theorem n57op {i d : Nat} {op : Op} (h : (n57o[i]?).map (fun o=>(o.dst,o.op,o.guard)) = some (some d,op,none)) : ∃ o,n57o[i]? = some o ∧ o.dst = some d ∧ o.op = op ∧ o.guard = none:=by
 rcases ho : n57o[i]? with _ | o
 · rw [ho] at h; cases h
 · rw [ho] at h
   simp only [Option.map_some,Option.some.injEq,Prod.mk.injEq] at h
   exact ⟨o,rfl,h.1,h.2.1,h.2.2⟩
theorem wanted_none {o : Oper} {y : Nat → Option Bool} (h : o.guard = none) : Region.wanted o y = true:=by unfold Region.wanted; rw [h]
theorem n57v {i d : Nat} {op : Op} {v : Value} (hV : MuV Try.prog Lone V K) (hb : b.kind = .normal) (h : (n57o[i]?).map (fun o=>(o.dst,o.op,o.guard)) = some (some d,op,none)) (hok : opOk Try.prog Lone op = true) (hr : ∀ (o : Oper),o.op = op → ∀ τ,(execOp (Act.eval ⟨T,[]⟩) o).run Try.prog (re V τ 0) = .ok (.value v) (re V τ 0))
   (hk : K (G (b.at (Act.put ⟨T,[]⟩ (some d) v) (.inRegion n57o rest :: k)) cs)) : K (G (b.at ⟨T,[]⟩ (.inRegion n57o (i :: rest) :: k)) cs):=by
 obtain ⟨o,ho,hd,hop,hg⟩:=n57op h
 exact hV b _ k cs n57o i rest o v (.inl hb) ho (wanted_none hg) (by rw [hop]; exact hok) (hr o hop) (by rw [hd]; exact hk)
theorem n57c {i d f : Nat} {args : Array Operand} {ats : Array TypeId} {fn : Func} {c : Code} (hK : Mu Try.prog (fun _ => True) K) (hb : b.kind = .normal) (h : (n57o[i]?).map (fun o => (o.dst, o.op, o.guard)) = some (some d, .call { callee := .value (.func f), args, argTypes := ats }, none)) (hf : Try.prog.funcs[f]? = some fn) (hname : (fn.name == "runtime.NumGoroutine") = false) (hbd : fn.body = some c)
   (hk : ((n57o[i]?).bind (·.dst)) = some d → K (G (Frame.enter Try.prog f (args.map (Act.eval ⟨T,[]⟩)) .normal) (b.at ⟨T,[]⟩ (.inRegion n57o (i :: rest) :: k) :: cs))) : K (G (b.at ⟨T,[]⟩ (.inRegion n57o (i :: rest) :: k)) cs):=by
 obtain ⟨o,ho,hd,hop,hg⟩:=n57op h
 refine mu_call hK ho (wanted_none hg) (by rw [hb]; decide) hop hf hname hbd ?_
 rw [← enter_at (P:=Try.prog) _ hf hbd]
 exact hk (by rw [ho]; exact hd)
theorem evt {T : Array Value} {i : Nat} {v : Value} (h : T[i]? = some v) : Act.eval ⟨T,[]⟩ (.tmp i) = v:=by simp [Act.eval,Array.getD_eq_getD_getElem?,h]
theorem n57_0 (hK : Mu Try.prog (fun _=>True) K) (hV : MuV Try.prog Lone V K) (hb : b.kind = .normal) (hc : ∀ τ,(re V τ 0).cell? ⟨mb,0,none⟩ = some (.pointer none)) (t2 : T[2]? = some (.pointer (some ⟨mb,0,none⟩))) (h : K (G (b.at (Act.put ⟨T,[]⟩ (some 18) (.pointer none)) (.inRegion n57o rest :: k)) cs)) : K (G (b.at ⟨T,[]⟩ (.inRegion n57o (0 :: rest) :: k)) cs):=by
 have et2:=evt t2
 refine n57v hV hb (i:=0) (d:=18) (op:=.load 104 (.tmp 2)) (by kernel_rfl) (by kernel_rfl) (fun o ho τ=>?_) h
 simp only [execOp,ho]
 go_simp
theorem n57_1 (hK : Mu Try.prog (fun _=>True) K) (hV : MuV Try.prog Lone V K) (hb : b.kind = .normal) (t0 : T[0]? = some (.pointer (some ⟨tb,0,none⟩))) (h : K (G (b.at (Act.put ⟨T,[]⟩ (some 19) (.pointer (some ⟨tb,0,none⟩))) (.inRegion n57o rest :: k)) cs)) : K (G (b.at ⟨T,[]⟩ (.inRegion n57o (1 :: rest) :: k)) cs):=by
 have et0:=evt t0
 refine n57v hV hb (i:=1) (d:=19) (op:=.move (.tmp 0)) (by kernel_rfl) (by kernel_rfl) (fun o ho τ=>?_) h
 simp only [execOp,ho]
 go_simp
theorem n57_2 (hK : Mu Try.prog (fun _=>True) K) (hV : MuV Try.prog Lone V K) (hb : b.kind = .normal) (t18 : T[18]? = some (.pointer none)) (t19 : T[19]? = some (.pointer (some ⟨tb,0,none⟩))) (h : K (G (b.at (Act.put ⟨T,[]⟩ (some 20) (.int .i64 1)) (.inRegion n57o rest :: k)) cs)) : K (G (b.at ⟨T,[]⟩ (.inRegion n57o (2 :: rest) :: k)) cs):=by
 have et18:=evt t18
 have et19:=evt t19
 refine n57c hK hb (i:=2) (d:=20) (f:=45) (args:=#[.tmp 18,.tmp 19]) (ats:=#[104,50]) (by kernel_rfl) Try.func45 (by kernel_rfl) rfl fun hd=>?_
 have ea : (#[.tmp 18,.tmp 19] : Array Operand).map (Act.eval ⟨T,[]⟩) = #[Value.pointer none,Value.pointer (some ⟨tb,0,none⟩)]:=by simp [t18,t19,Act.eval]
 rw [ea]
 refine nil45a hK hV ?_
 rw [hd]
 exact h
theorem n57_3 (hK : Mu Try.prog (fun _=>True) K) (hV : MuV Try.prog Lone V K) (hb : b.kind = .normal) (hc : ∀ τ,(re V τ 0).cell? ⟨mb,0,none⟩ = some (.pointer none)) (t2 : T[2]? = some (.pointer (some ⟨mb,0,none⟩))) (h : K (G (b.at (Act.put ⟨T,[]⟩ (some 21) (.pointer none)) (.inRegion n57o rest :: k)) cs)) : K (G (b.at ⟨T,[]⟩ (.inRegion n57o (3 :: rest) :: k)) cs):=by
 have et2:=evt t2
 refine n57v hV hb (i:=3) (d:=21) (op:=.load 104 (.tmp 2)) (by kernel_rfl) (by kernel_rfl) (fun o ho τ=>?_) h
 simp only [execOp,ho]
 go_simp
theorem n57_4 (hK : Mu Try.prog (fun _=>True) K) (hV : MuV Try.prog Lone V K) (hb : b.kind = .normal) (t0 : T[0]? = some (.pointer (some ⟨tb,0,none⟩))) (h : K (G (b.at (Act.put ⟨T,[]⟩ (some 22) (.pointer (some ⟨tb,0,none⟩))) (.inRegion n57o rest :: k)) cs)) : K (G (b.at ⟨T,[]⟩ (.inRegion n57o (4 :: rest) :: k)) cs):=by
 have et0:=evt t0
 refine n57v hV hb (i:=4) (d:=22) (op:=.move (.tmp 0)) (by kernel_rfl) (by kernel_rfl) (fun o ho τ=>?_) h
 simp only [execOp,ho]
 go_simp
theorem n57_5 (hK : Mu Try.prog (fun _=>True) K) (hV : MuV Try.prog Lone V K) (hb : b.kind = .normal) (t21 : T[21]? = some (.pointer none)) (t22 : T[22]? = some (.pointer (some ⟨tb,0,none⟩))) (h : K (G (b.at (Act.put ⟨T,[]⟩ (some 23) (.int .i64 1)) (.inRegion n57o rest :: k)) cs)) : K (G (b.at ⟨T,[]⟩ (.inRegion n57o (5 :: rest) :: k)) cs):=by
 have et21:=evt t21
 have et22:=evt t22
 refine n57c hK hb (i:=5) (d:=23) (f:=46) (args:=#[.tmp 21,.tmp 22]) (ats:=#[104,50]) (by kernel_rfl) Try.func46 (by kernel_rfl) rfl fun hd=>?_
 have ea : (#[.tmp 21,.tmp 22] : Array Operand).map (Act.eval ⟨T,[]⟩) = #[Value.pointer none,Value.pointer (some ⟨tb,0,none⟩)]:=by simp [t21,t22,Act.eval]
 rw [ea]
 refine nil46a hK hV ?_
 rw [hd]
 exact h
theorem n57_6 (hK : Mu Try.prog (fun _=>True) K) (hV : MuV Try.prog Lone V K) (hb : b.kind = .normal) (t20 : T[20]? = some (.int .i64 1)) (t23 : T[23]? = some (.int .i64 1)) (h : K (G (b.at (Act.put ⟨T,[]⟩ (some 24) (.int .i64 2)) (.inRegion n57o rest :: k)) cs)) : K (G (b.at ⟨T,[]⟩ (.inRegion n57o (6 :: rest) :: k)) cs):=by
 have et20:=evt t20
 have et23:=evt t23
 refine n57v hV hb (i:=6) (d:=24) (op:=.binOp .add 3 (.tmp 20) (.tmp 23) 3) (by kernel_rfl) (by kernel_rfl) (fun o ho τ=>?_) h
 simp only [execOp,ho]
 go_simp
 rfl
theorem n57_7 (hK : Mu Try.prog (fun _=>True) K) (hV : MuV Try.prog Lone V K) (hb : b.kind = .normal) (hc : ∀ τ,(re V τ 0).cell? ⟨cb,0,none⟩ = some (.pointer none)) (t3 : T[3]? = some (.pointer (some ⟨cb,0,none⟩))) (h : K (G (b.at (Act.put ⟨T,[]⟩ (some 25) (.pointer none)) (.inRegion n57o rest :: k)) cs)) : K (G (b.at ⟨T,[]⟩ (.inRegion n57o (7 :: rest) :: k)) cs):=by
 have et3:=evt t3
 refine n57v hV hb (i:=7) (d:=25) (op:=.load 126 (.tmp 3)) (by kernel_rfl) (by kernel_rfl) (fun o ho τ=>?_) h
 simp only [execOp,ho]
 go_simp
theorem n57_8 (hK : Mu Try.prog (fun _=>True) K) (hV : MuV Try.prog Lone V K) (hb : b.kind = .normal) (t0 : T[0]? = some (.pointer (some ⟨tb,0,none⟩))) (h : K (G (b.at (Act.put ⟨T,[]⟩ (some 26) (.pointer (some ⟨tb,0,none⟩))) (.inRegion n57o rest :: k)) cs)) : K (G (b.at ⟨T,[]⟩ (.inRegion n57o (8 :: rest) :: k)) cs):=by
 have et0:=evt t0
 refine n57v hV hb (i:=8) (d:=26) (op:=.move (.tmp 0)) (by kernel_rfl) (by kernel_rfl) (fun o ho τ=>?_) h
 simp only [execOp,ho]
 go_simp
theorem n57_9 (hK : Mu Try.prog (fun _=>True) K) (hV : MuV Try.prog Lone V K) (hb : b.kind = .normal) (t4 : T[4]? = some (.pointer (some ⟨rb,0,none⟩))) (t25 : T[25]? = some (.pointer none)) (t26 : T[26]? = some (.pointer (some ⟨tb,0,none⟩))) (h : K (G (b.at (Act.put ⟨T,[]⟩ (some 27) (.int .i64 1)) (.inRegion n57o rest :: k)) cs)) : K (G (b.at ⟨T,[]⟩ (.inRegion n57o (9 :: rest) :: k)) cs):=by
 have et4:=evt t4
 have et25:=evt t25
 have et26:=evt t26
 refine n57c hK hb (i:=9) (d:=27) (f:=49) (args:=#[.tmp 25,.tmp 26,.tmp 4]) (ats:=#[126,50,104]) (by kernel_rfl) Try.func49 (by kernel_rfl) rfl fun hd=>?_
 have ea : (#[.tmp 25,.tmp 26,.tmp 4] : Array Operand).map (Act.eval ⟨T,[]⟩) = #[Value.pointer none,Value.pointer (some ⟨tb,0,none⟩),Value.pointer (some ⟨rb,0,none⟩)]:=by simp [t4,t25,t26,Act.eval]
 rw [ea]
 refine nil49a hK hV ?_
 rw [hd]
 exact h
theorem n57_10 (hK : Mu Try.prog (fun _=>True) K) (hV : MuV Try.prog Lone V K) (hb : b.kind = .normal) (t24 : T[24]? = some (.int .i64 2)) (t27 : T[27]? = some (.int .i64 1)) (h : K (G (b.at (Act.put ⟨T,[]⟩ (some 28) (.int .i64 3)) (.inRegion n57o rest :: k)) cs)) : K (G (b.at ⟨T,[]⟩ (.inRegion n57o (10 :: rest) :: k)) cs):=by
 have et24:=evt t24
 have et27:=evt t27
 refine n57v hV hb (i:=10) (d:=28) (op:=.binOp .add 3 (.tmp 24) (.tmp 27) 3) (by kernel_rfl) (by kernel_rfl) (fun o ho τ=>?_) h
 simp only [execOp,ho]
 go_simp
 rfl
theorem n57_11 (hK : Mu Try.prog (fun _=>True) K) (hV : MuV Try.prog Lone V K) (hb : b.kind = .normal) (t0 : T[0]? = some (.pointer (some ⟨tb,0,none⟩))) (h : K (G (b.at (Act.put ⟨T,[]⟩ (some 29) (.pointer (some ⟨tb,0,none⟩))) (.inRegion n57o rest :: k)) cs)) : K (G (b.at ⟨T,[]⟩ (.inRegion n57o (11 :: rest) :: k)) cs):=by
 have et0:=evt t0
 refine n57v hV hb (i:=11) (d:=29) (op:=.move (.tmp 0)) (by kernel_rfl) (by kernel_rfl) (fun o ho τ=>?_) h
 simp only [execOp,ho]
 go_simp
theorem n57_12 (hK : Mu Try.prog (fun _=>True) K) (hV : MuV Try.prog Lone V K) (hb : b.kind = .normal) (t5 : T[5]? = some (.pointer (some ⟨kb,0,none⟩))) (t29 : T[29]? = some (.pointer (some ⟨tb,0,none⟩))) (h : K (G (b.at (Act.put ⟨T,[]⟩ (some 30) (.int .i64 1)) (.inRegion n57o rest :: k)) cs)) : K (G (b.at ⟨T,[]⟩ (.inRegion n57o (12 :: rest) :: k)) cs):=by
 have et5:=evt t5
 have et29:=evt t29
 refine n57c hK hb (i:=12) (d:=30) (f:=49) (args:=#[.tmp 5,.tmp 29,.const (.pointer none)]) (ats:=#[102,50,104]) (by kernel_rfl) Try.func49 (by kernel_rfl) rfl fun hd=>?_
 have ea : (#[.tmp 5,.tmp 29,.const (.pointer none)] : Array Operand).map (Act.eval ⟨T,[]⟩) = #[Value.pointer (some ⟨kb,0,none⟩),Value.pointer (some ⟨tb,0,none⟩),Value.pointer none]:=by simp [t5,t29,Act.eval]
 rw [ea]
 refine nil49b hK hV ?_
 rw [hd]
 exact h
theorem n57_13 (hK : Mu Try.prog (fun _=>True) K) (hV : MuV Try.prog Lone V K) (hb : b.kind = .normal) (t28 : T[28]? = some (.int .i64 3)) (t30 : T[30]? = some (.int .i64 1)) (h : K (G (b.at (Act.put ⟨T,[]⟩ (some 31) (.int .i64 4)) (.inRegion n57o rest :: k)) cs)) : K (G (b.at ⟨T,[]⟩ (.inRegion n57o (13 :: rest) :: k)) cs):=by
 have et28:=evt t28
 have et30:=evt t30
 refine n57v hV hb (i:=13) (d:=31) (op:=.binOp .add 3 (.tmp 28) (.tmp 30) 3) (by kernel_rfl) (by kernel_rfl) (fun o ho τ=>?_) h
 simp only [execOp,ho]
 go_simp
 rfl
theorem n57_14 (hK : Mu Try.prog (fun _=>True) K) (hV : MuV Try.prog Lone V K) (hb : b.kind = .normal) (hc : ∀ τ,(re V τ 0).cell? ⟨cb,0,none⟩ = some (.pointer none)) (t3 : T[3]? = some (.pointer (some ⟨cb,0,none⟩))) (h : K (G (b.at (Act.put ⟨T,[]⟩ (some 32) (.pointer none)) (.inRegion n57o rest :: k)) cs)) : K (G (b.at ⟨T,[]⟩ (.inRegion n57o (14 :: rest) :: k)) cs):=by
 have et3:=evt t3
 refine n57v hV hb (i:=14) (d:=32) (op:=.load 126 (.tmp 3)) (by kernel_rfl) (by kernel_rfl) (fun o ho τ=>?_) h
 simp only [execOp,ho]
 go_simp
theorem n57_15 (hK : Mu Try.prog (fun _=>True) K) (hV : MuV Try.prog Lone V K) (hb : b.kind = .normal) (t0 : T[0]? = some (.pointer (some ⟨tb,0,none⟩))) (h : K (G (b.at (Act.put ⟨T,[]⟩ (some 33) (.pointer (some ⟨tb,0,none⟩))) (.inRegion n57o rest :: k)) cs)) : K (G (b.at ⟨T,[]⟩ (.inRegion n57o (15 :: rest) :: k)) cs):=by
 have et0:=evt t0
 refine n57v hV hb (i:=15) (d:=33) (op:=.move (.tmp 0)) (by kernel_rfl) (by kernel_rfl) (fun o ho τ=>?_) h
 simp only [execOp,ho]
 go_simp
theorem n57_16 (hK : Mu Try.prog (fun _=>True) K) (hV : MuV Try.prog Lone V K) (hb : b.kind = .normal) (t32 : T[32]? = some (.pointer none)) (t33 : T[33]? = some (.pointer (some ⟨tb,0,none⟩))) (h : K (G (b.at (Act.put ⟨T,[]⟩ (some 34) (.int .i64 1)) (.inRegion n57o rest :: k)) cs)) : K (G (b.at ⟨T,[]⟩ (.inRegion n57o (16 :: rest) :: k)) cs):=by
 have et32:=evt t32
 have et33:=evt t33
 refine n57c hK hb (i:=16) (d:=34) (f:=58) (args:=#[.tmp 32,.tmp 33]) (ats:=#[126,50]) (by kernel_rfl) Try.func58 (by kernel_rfl) rfl fun hd=>?_
 have ea : (#[.tmp 32,.tmp 33] : Array Operand).map (Act.eval ⟨T,[]⟩) = #[Value.pointer none,Value.pointer (some ⟨tb,0,none⟩)]:=by simp [t32,t33,Act.eval]
 rw [ea]
 refine nil58a hK hV ?_
 rw [hd]
 exact h
theorem n57_17 (hK : Mu Try.prog (fun _=>True) K) (hV : MuV Try.prog Lone V K) (hb : b.kind = .normal) (t31 : T[31]? = some (.int .i64 4)) (t34 : T[34]? = some (.int .i64 1)) (h : K (G (b.at (Act.put ⟨T,[]⟩ (some 35) (.int .i64 5)) (.inRegion n57o rest :: k)) cs)) : K (G (b.at ⟨T,[]⟩ (.inRegion n57o (17 :: rest) :: k)) cs):=by
 have et31:=evt t31
 have et34:=evt t34
 refine n57v hV hb (i:=17) (d:=35) (op:=.binOp .add 3 (.tmp 31) (.tmp 34) 3) (by kernel_rfl) (by kernel_rfl) (fun o ho τ=>?_) h
 simp only [execOp,ho]
 go_simp
 rfl
theorem n57_18 (hK : Mu Try.prog (fun _=>True) K) (hV : MuV Try.prog Lone V K) (hb : b.kind = .normal) (hc : ∀ τ,(re V τ 0).cell? ⟨cb,0,none⟩ = some (.pointer none)) (t3 : T[3]? = some (.pointer (some ⟨cb,0,none⟩))) (h : K (G (b.at (Act.put ⟨T,[]⟩ (some 36) (.pointer none)) (.inRegion n57o rest :: k)) cs)) : K (G (b.at ⟨T,[]⟩ (.inRegion n57o (18 :: rest) :: k)) cs):=by
 have et3:=evt t3
 refine n57v hV hb (i:=18) (d:=36) (op:=.load 126 (.tmp 3)) (by kernel_rfl) (by kernel_rfl) (fun o ho τ=>?_) h
 simp only [execOp,ho]
 go_simp
theorem n57_19 (hK : Mu Try.prog (fun _=>True) K) (hV : MuV Try.prog Lone V K) (hb : b.kind = .normal) (t0 : T[0]? = some (.pointer (some ⟨tb,0,none⟩))) (h : K (G (b.at (Act.put ⟨T,[]⟩ (some 37) (.pointer (some ⟨tb,0,none⟩))) (.inRegion n57o rest :: k)) cs)) : K (G (b.at ⟨T,[]⟩ (.inRegion n57o (19 :: rest) :: k)) cs):=by
 have et0:=evt t0
 refine n57v hV hb (i:=19) (d:=37) (op:=.move (.tmp 0)) (by kernel_rfl) (by kernel_rfl) (fun o ho τ=>?_) h
 simp only [execOp,ho]
 go_simp
theorem n57_20 (hK : Mu Try.prog (fun _=>True) K) (hV : MuV Try.prog Lone V K) (hb : b.kind = .normal) (t36 : T[36]? = some (.pointer none)) (t37 : T[37]? = some (.pointer (some ⟨tb,0,none⟩))) (h : K (G (b.at (Act.put ⟨T,[]⟩ (some 38) (.int .i64 1)) (.inRegion n57o rest :: k)) cs)) : K (G (b.at ⟨T,[]⟩ (.inRegion n57o (20 :: rest) :: k)) cs):=by
 have et36:=evt t36
 have et37:=evt t37
 refine n57c hK hb (i:=20) (d:=38) (f:=51) (args:=#[.tmp 36,.tmp 37]) (ats:=#[126,50]) (by kernel_rfl) Try.func51 (by kernel_rfl) rfl fun hd=>?_
 have ea : (#[.tmp 36,.tmp 37] : Array Operand).map (Act.eval ⟨T,[]⟩) = #[Value.pointer none,Value.pointer (some ⟨tb,0,none⟩)]:=by simp [t36,t37,Act.eval]
 rw [ea]
 refine nil51a hK hV ?_
 rw [hd]
 exact h
theorem n57_21 (hK : Mu Try.prog (fun _=>True) K) (hV : MuV Try.prog Lone V K) (hb : b.kind = .normal) (t35 : T[35]? = some (.int .i64 5)) (t38 : T[38]? = some (.int .i64 1)) (h : K (G (b.at (Act.put ⟨T,[]⟩ (some 39) (.int .i64 6)) (.inRegion n57o rest :: k)) cs)) : K (G (b.at ⟨T,[]⟩ (.inRegion n57o (21 :: rest) :: k)) cs):=by
 have et35:=evt t35
 have et38:=evt t38
 refine n57v hV hb (i:=21) (d:=39) (op:=.binOp .add 3 (.tmp 35) (.tmp 38) 3) (by kernel_rfl) (by kernel_rfl) (fun o ho τ=>?_) h
 simp only [execOp,ho]
 go_simp
 rfl
def n57deps : Nat → List Nat:=fun i=>match i with | 2=>[0,1] | 5=>[3,4] | 6=>[2,5] | 9=>[7,8] | 10=>[6,9] | 12=>[11] | 13=>[10,12] | 16=>[14,15] | 17=>[13,16] | 20=>[18,19] | 21=>[17,20] | _=>[]
def n57val (tb : Nat) : Nat → Value:=fun i=>match i with | 0=>.pointer none | 1=>.pointer (some ⟨tb,0,none⟩) | 2=>.int .i64 1 | 3=>.pointer none | 4=>.pointer (some ⟨tb,0,none⟩) | 5=>.int .i64 1 | 6=>.int .i64 2 | 7=>.pointer none | 8=>.pointer (some ⟨tb,0,none⟩) | 9=>.int .i64 1 | 10=>.int .i64 3 | 11=>.pointer (some ⟨tb,0,none⟩) | 12=>.int .i64 1 | 13=>.int .i64 4 | 14=>.pointer none | 15=>.pointer (some ⟨tb,0,none⟩) | 16=>.int .i64 1 | 17=>.int .i64 5 | 18=>.pointer none | 19=>.pointer (some ⟨tb,0,none⟩) | 20=>.int .i64 1 | 21=>.int .i64 6 | _=>undef
def N57 (tb mb cb rb kb eb : Nat) (T : Array Value) : Prop:=T.size = 40 ∧ T[0]? = some (.pointer (some ⟨tb,0,none⟩)) ∧ T[2]? = some (.pointer (some ⟨mb,0,none⟩)) ∧ T[3]? = some (.pointer (some ⟨cb,0,none⟩)) ∧ T[4]? = some (.pointer (some ⟨rb,0,none⟩)) ∧ T[5]? = some (.pointer (some ⟨kb,0,none⟩)) ∧ T[6]? = some (.pointer (some ⟨eb,0,none⟩))
theorem N57.put {tb mb cb rb kb eb : Nat} {T : Array Value} {d : Nat} {v : Value} (h : N57 tb mb cb rb kb eb T) (hd : 7 ≤ d) : N57 tb mb cb rb kb eb (T.setIfInBounds d v):=by
 obtain ⟨h0,h1,h2,h3,h4,h5,h6⟩:=h
 refine ⟨by simp [h0],?_,?_,?_,?_,?_,?_⟩ <;> (rw [Array.getElem?_setIfInBounds_ne (by omega)]; assumption)
def N57I (tb mb cb rb kb eb : Nat) (listed : Array Bool) (a : Act) : Prop:=a.defers = [] ∧ N57 tb mb cb rb kb eb a.tmps ∧ ∀ i,i < 22 → listed.getD i false = true → a.tmps[18 + i]? = some (n57val tb i)
theorem n57_step (hK : Mu Try.prog (fun _=>True) K) (hV : MuV Try.prog Lone V K) (hb : b.kind = .normal) (hm : ∀ τ,(re V τ 0).cell? ⟨mb,0,none⟩ = some (.pointer none)) (hc : ∀ τ,(re V τ 0).cell? ⟨cb,0,none⟩ = some (.pointer none)) (hT : N57 tb mb cb rb kb eb T) (i : Nat) (hi : i < 22) (hd : ∀ d ∈ n57deps i,T[18 + d]? = some (n57val tb d))
   (h : K (G (b.at (Act.put ⟨T,[]⟩ (some (18 + i)) (n57val tb i)) (.inRegion n57o rest :: k)) cs)) : K (G (b.at ⟨T,[]⟩ (.inRegion n57o (i :: rest) :: k)) cs):=by
 obtain ⟨hs,t0,t2,t3,t4,t5,t6⟩:=hT
 rcases (show i = 0 ∨ i = 1 ∨ i = 2 ∨ i = 3 ∨ i = 4 ∨ i = 5 ∨ i = 6 ∨ i = 7 ∨ i = 8 ∨ i = 9 ∨ i = 10 ∨ i = 11 ∨ i = 12 ∨ i = 13 ∨ i = 14 ∨ i = 15 ∨ i = 16 ∨ i = 17 ∨ i = 18 ∨ i = 19 ∨ i = 20 ∨ i = 21 by omega) with rfl | rfl | rfl | rfl | rfl | rfl | rfl | rfl | rfl | rfl | rfl | rfl | rfl | rfl | rfl | rfl | rfl | rfl | rfl | rfl | rfl | rfl
 · exact n57_0 hK hV hb hm t2 h
 · exact n57_1 hK hV hb t0 h
 · exact n57_2 hK hV hb (hd 0 (by decide)) (hd 1 (by decide)) h
 · exact n57_3 hK hV hb hm t2 h
 · exact n57_4 hK hV hb t0 h
 · exact n57_5 hK hV hb (hd 3 (by decide)) (hd 4 (by decide)) h
 · exact n57_6 hK hV hb (hd 2 (by decide)) (hd 5 (by decide)) h
 · exact n57_7 hK hV hb hc t3 h
 · exact n57_8 hK hV hb t0 h
 · exact n57_9 hK hV hb t4 (hd 7 (by decide)) (hd 8 (by decide)) h
 · exact n57_10 hK hV hb (hd 6 (by decide)) (hd 9 (by decide)) h
 · exact n57_11 hK hV hb t0 h
 · exact n57_12 hK hV hb t5 (hd 11 (by decide)) h
 · exact n57_13 hK hV hb (hd 10 (by decide)) (hd 12 (by decide)) h
 · exact n57_14 hK hV hb hc t3 h
 · exact n57_15 hK hV hb t0 h
 · exact n57_16 hK hV hb (hd 14 (by decide)) (hd 15 (by decide)) h
 · exact n57_17 hK hV hb (hd 13 (by decide)) (hd 16 (by decide)) h
 · exact n57_18 hK hV hb hc t3 h
 · exact n57_19 hK hV hb t0 h
 · exact n57_20 hK hV hb (hd 18 (by decide)) (hd 19 (by decide)) h
 · exact n57_21 hK hV hb (hd 17 (by decide)) (hd 20 (by decide)) h
theorem n57_deps : ∀ i,i < 22 → ∃ o,n57o[i]? = some o ∧ o.dst = some (18 + i) ∧ ∀ d ∈ n57deps i,d < i ∧ ∃ e ∈ o.after,e.on = d ∧ Region.binds .any e = true:=by
 have key : ((List.range 22).all fun i=>(n57o[i]?).any fun o=>o.dst == some (18 + i) && (n57deps i).all fun d=>d < i && o.after.any fun e=>e.on == d && Region.binds .any e) = true:=by kernel_rfl
 intro i hi
 have h:=List.all_eq_true.1 key i (List.mem_range.2 hi)
 rcases ho : n57o[i]? with _ | o
 · rw [ho] at h; cases h
 · rw [ho] at h
   simp only [Option.any_some,Bool.and_eq_true,beq_iff_eq,List.all_eq_true,decide_eq_true_eq,Array.any_eq_true'] at h
   refine ⟨o,rfl,h.1,fun d hd=>⟨(h.2 d hd).1,?_⟩⟩
   obtain ⟨e,he,h1,h2⟩:=(h.2 d hd).2
   exact ⟨e,he,h1,h2⟩
theorem n57_go (hK : Mu Try.prog (fun _=>True) K) (hV : MuV Try.prog Lone V K) (hD : MuD Try.prog K) (hb : b.kind = .normal) (hm : ∀ τ,(re V τ 0).cell? ⟨mb,0,none⟩ = some (.pointer none)) (hc : ∀ τ,(re V τ 0).cell? ⟨cb,0,none⟩ = some (.pointer none)) (hT : N57 tb mb cb rb kb eb T)
   (h : ∀ T',N57 tb mb cb rb kb eb T' → T'[39]? = some (.int .i64 6) → K (G (b.at ⟨T',[]⟩ (.inRegion n57o [22] :: k)) cs)) : K (G (b.at ⟨T,[]⟩ (.code n57R4 :: k)) cs):=by
 have e : n57R4 = .region 4 n57o true:=by kernel_rfl
 rw [e]
 refine order_go (j:=22) (N:=23) hD (by kernel_rfl) (by kernel_rfl) (by kernel_rfl) (N57I tb mb cb rb kb eb) ⟨rfl,hT,fun i hi h=>by
   rw [show (Array.replicate 23 false).getD i false = false by rw [Array.getD_eq_getD_getElem?,Array.getElem?_replicate]; split <;> rfl] at h
   cases h⟩ (fun listed a i hI hl hi hj hr=>?_) fun listed a hI hall=>?_
 · obtain ⟨T,df⟩:=a
   obtain ⟨hdf,hN,hv⟩:=hI
   obtain rfl : df = []:=hdf
   have hi2 : i < 22:=by omega
   obtain ⟨o,ho,hdst,hdp⟩:=n57_deps i hi2
   refine ⟨_,⟨rfl,hN.put (d:=18 + i) (v:=n57val tb i) (by omega),fun i' hi' hl'=>?_⟩,fun rest hk=>n57_step hK hV hb hm hc hN i hi2 (fun d hd=>?_) hk⟩
   · show (T.setIfInBounds (18 + i) (n57val tb i))[18 + i']? = _
     by_cases e : i' = i
     · subst e
       rw [Array.getElem?_setIfInBounds_self_of_lt (by rw [hN.1]; omega)]
     · rw [Array.getElem?_setIfInBounds_ne (by omega)]
       refine hv i' hi' ?_
       rw [getD_set_ne false (Ne.symm e)] at hl'
       exact hl'
   · obtain ⟨h1,e,he,h2,h3⟩:=hdp d hd
     obtain ⟨_,o',ho',hall⟩:=mem_ready.1 hr
     rw [ho] at ho'
     obtain rfl:=Option.some.inj ho'
     have:=hall e he h3
     rw [h2] at this
     exact hv d (by omega) this
 · obtain ⟨T,df⟩:=a
   obtain ⟨hdf,hN,hv⟩:=hI
   obtain rfl : df = []:=hdf
   exact h T hN (hv 21 (by omega) (hall 21 (by omega) (by omega)))
end
end Go.Proofs.Ytibcdikfbhmheaa

namespace Go.Proofs.Ytibcdikfbhmheaa
open Go Go.Conc Go.Proofs
open Go.ConcN (sumTo upd sumTo_upd upd_ne upd_same)
set_option linter.unusedVariables false
section
variable {P : Program} {main : Bool} {Z : Cuts} {Stop : Goroutine → World → Prop} {V : World} {g g' : Goroutine}
end
section
variable {main : Bool} {Z : Cuts} {Stop : Goroutine → World → Prop} {V : World} {b : Frame} {a : Act} {ops : Array Oper} {i : Nat} {rest : List Nat} {k : List Item} {cs : List Frame} {o : Oper} {ats : Array TypeId}
end
end Go.Proofs.Ytibcdikfbhmheaa

namespace Go.Proofs.Ytibcdikfbhmheaa
open Go Go.Conc Go.Proofs
open Go.ConcN (sumTo upd sumTo_upd upd_ne upd_same)
set_option linter.unusedVariables false
theorem arrg_QN01 {n : Nat} (T : Array Value) (h : T.size = n) : ∃ f : Nat → Value,(∀ i v,T[i]? = some v → f i = v) ∧ T = ((List.range n).map f).toArray:=by
 refine ⟨fun i=>T.getD i undef,fun i v hv=>by simp [Array.getD_eq_getD_getElem?,hv],?_⟩
 generalize hf : (fun i=>T.getD i undef) = f
 have e : T.toList = (List.range n).map f:=by
   apply List.ext_getElem?
   intro i
   rw [List.getElem?_map,Array.getElem?_toList]
   by_cases hi : i < n
   · rw [List.getElem?_range hi,Option.map_some,← hf]
     simp [Array.getD_eq_getD_getElem?,Array.getElem?_eq_getElem (show i < T.size by omega)]
   · rw [List.getElem?_eq_none (by simp; omega),Array.getElem?_eq_none (by omega)]
     rfl
 rw [← Array.toArray_toList (xs:=T),e]
theorem array40f (T : Array Value) (h : T.size = 40) : ∃ f : Nat → Value,(∀ i v,T[i]? = some v → f i = v) ∧ T = #[f 0,f 1,f 2,f 3,f 4,f 5,f 6,f 7,f 8,f 9,f 10,f 11,f 12,f 13,f 14,f 15,f 16,f 17,f 18,f 19,f 20,f 21,f 22,f 23,f 24,f 25,f 26,f 27,f 28,f 29,f 30,f 31,f 32,f 33,f 34,f 35,f 36,f 37,f 38,f 39]:=arrg_QN01 T h
noncomputable def n57X : Code:=nvl (nvk (nvb (nva (Try.f57.body.getD .skip))))
noncomputable def n57R2 : Code:=nvb (nvb n57X)
noncomputable def n57o3 : Array Oper:=rops (nvk (nva (nvb n57X)))
def NF (tb yb mb cb rb kb eb k : Nat) (T : Array Value) : Prop:=N57 tb mb cb rb kb eb T ∧ T[1]? = some (.pointer (some ⟨yb,0,none⟩)) ∧ T[8]? = some (.int .i64 (k : Int))
noncomputable def n57F (T : Array Value) : Frame:=(base 57).at ⟨T,[]⟩ [.inRegion n57o3 [1],.inBlock 1,.code n57R2,.inLoop n57X,.inBlock 0,.code n57R4]
section
variable {V : World} {main : Bool} {Z : Cuts} {Stop : Goroutine → World → Prop} {tb yb mb cb rb kb eb y k : Nat} {u : Int} {T : Array Value} {cs : List Frame} {b₀ : Frame} {a₀ : Act} {ops₀ : Array Oper} {i₀ : Nat} {rest₀ : List Nat} {k₀ : List Item}
theorem n57_in (hn : norm V = V) (K : ∀ T,NF tb yb mb cb rb kb eb 0 T → Will Try.prog main Z Stop (G ((base 57).at ⟨T,[]⟩ [.code n57X,.inLoop n57X,.inBlock 0,.code n57R4]) cs) V) :
   Will Try.prog main Z Stop (G (Frame.enter Try.prog 57 #[.pointer (some ⟨tb,0,none⟩),.pointer (some ⟨yb,0,none⟩),.pointer (some ⟨mb,0,none⟩),.pointer (some ⟨cb,0,none⟩),.pointer (some ⟨rb,0,none⟩),.pointer (some ⟨kb,0,none⟩),.pointer (some ⟨eb,0,none⟩)] .normal) cs) V:=by
 have e57 : Try.f57.body = some (.seq (.seq (nva (nva (Try.f57.body.getD .skip))) (.block 0 (.loop n57X))) n57R4):=by kernel_rfl
 have hK0:=K
 clear K
 rw [enter_at (P:=Try.prog) _ Try.func57 e57]
 refine mu_seq mu_will (mu_seq mu_will ?_)
 clear e57
 have hnt : Try.f57.ntmps = 40:=rfl
 rw [hnt]
 clear hnt
 generalize hX0 : nva (nva (Try.f57.body.getD .skip)) = X0
 simp only [nva,Try.f57,Option.getD_some] at hX0
 subst hX0
 walk_nrm
 obtain ⟨K,hK,hV,key,yek⟩:=kKV (L:=Lone) (J:=fun g=>Will Try.prog main Z Stop g V) mu_will (muv_will hn)
 refine key _ ?_
 refine mu_regionH hK (fun kk hkk=>?_)
 simp only [List.size_toArray,List.length_cons,List.length_nil,Nat.reduceAdd,Nat.zero_add,List.range,List.range.loop]
 refine muv_val hV rfl (.inl rfl) rfl (by kernel_rfl) (fun J hJ=>?_)
 go_simp
 with_reducible refine hJ _ ?_
 clear hJ J
 walk_nrm
 refine mu_region_end hK ?_
 subst hkk
 refine mu_block hK (mu_loop hK ?_)
 refine yek _ ?_
 clear hK hV key yek K
 refine hK0 _ ⟨⟨?_,rfl,rfl,rfl,rfl,rfl,rfl⟩,rfl,rfl⟩
 simp
theorem n57X_eq : n57X = .seq (.seq (nva (nva n57X)) (.cond (.tmp 13) .skip (.exit 0))) (.seq (.block 1 (nvk (nva (nvb n57X)))) n57R2):=by kernel_rfl
theorem n57_r1 (hn : norm V = V) (hc : ∀ τ,(re V τ 0).cell? ⟨yb,0,none⟩ = some (.int .u8 u)) (hu : 0 ≤ u ∧ u < 256) (hy : (y : Int) = u % 3) (hk : k < 4) (hT : NF tb yb mb cb rb kb eb k T) {kt : List Item} (K : ∀ T',NF tb yb mb cb rb kb eb k T' → T'[13]? = some (.bool (decide (k < y))) → Will Try.prog main Z Stop (G ((base 57).at ⟨T',[]⟩ kt) cs) V) :
   Will Try.prog main Z Stop (G ((base 57).at ⟨T,[]⟩ (.code (nva (nva n57X)) :: kt)) cs) V:=by
 have hK0:=K
 clear K
 obtain ⟨⟨hs,t0,t2,t3,t4,t5,t6⟩,t1,t8⟩:=hT
 have w1 : IntKind.i64.wrap u = u:=by rw [IntKind.wrap_i64]; omega
 have w2 : IntKind.i64.wrap (u.tmod 3) = (y : Int):=by
   rw [Int.tmod_eq_emod_of_nonneg hu.1,← hy,IntKind.wrap_i64]; omega
 have w3 : decide ((k : Int) < (y : Int)) = decide (k < y):=by simp
 have w4 : ((k : Int) < u.tmod 3) ↔ k < y:=by rw [Int.tmod_eq_emod_of_nonneg hu.1]; omega
 clear hu hy
 obtain ⟨f,hf,hT⟩:=array40f T hs
 rw [hT]
 simp only [hf _ _ t0,hf _ _ t1,hf _ _ t2,hf _ _ t3,hf _ _ t4,hf _ _ t5,hf _ _ t6,hf _ _ t8]
 clear hf hs t0 t1 t2 t3 t4 t5 t6 t8
 subst hT
 generalize hX0 : nva (nva n57X) = X0
 simp only [n57X,n57R2,n57o3,rops,nva,nvb,nvk,nvl,Try.f57,Option.getD_some] at hX0
 subst hX0
 obtain ⟨K,hK,hV,key,yek⟩:=kKV (L:=Lone) (J:=fun g=>Will Try.prog main Z Stop g V) mu_will (muv_will hn)
 refine key _ ?_
 repeat (first|(with_reducible first|refine mu_seq hK ?_|refine mu_skip hK ?_|(refine mu_region_end hK ?_;try subst hkk)|refine mu_block hK ?_|refine mu_inBlock hK ?_|refine mu_ret hK ?_|refine mu_end hK ?_)|refine mu_exit hK rfl ?_|(with_reducible refine mu_regionH hK (fun kk hkk=>?_);simp only [List.size_toArray,List.length_cons,List.length_nil,Nat.reduceAdd,Nat.zero_add,List.range,List.range.loop])|(with_reducible refine mu_cf hK ?_ ?_;(· first|(walk_nrm;done)|(simp [Act.eval];done)))|(with_reducible refine mu_ct hK ?_ ?_;(· first|(walk_nrm;done)|(simp [Act.eval];done)))|(refine mu_unwanted hK rfl rfl ?_;walk_nrm)|(refine muv_val hV rfl (by first|exact .inl rfl|exact .inr rfl) rfl (by kernel_rfl) (fun J hJ=>?_);go_simp;with_reducible refine hJ _ ?_;clear hJ J;walk_nrm))
 refine yek _ ?_
 clear hK hV key yek K
 try simp only [w1,w2,w3]
 refine hK0 _ ⟨⟨?_,rfl,rfl,rfl,rfl,rfl,rfl⟩,rfl,rfl⟩ ?_
 · simp
 · first | rfl | (simp; exact w4)
theorem n57_r2 (hn : norm V = V) (hk : k < 4) (hT : NF tb yb mb cb rb kb eb k T) {kt : List Item} (K : ∀ T',NF tb yb mb cb rb kb eb (k + 1) T' → Will Try.prog main Z Stop (G ((base 57).at ⟨T',[]⟩ kt) cs) V) :
   Will Try.prog main Z Stop (G ((base 57).at ⟨T,[]⟩ (.code n57R2 :: kt)) cs) V:=by
 have hK0:=K
 clear K
 obtain ⟨⟨hs,t0,t2,t3,t4,t5,t6⟩,t1,t8⟩:=hT
 have w1 : IntKind.i64.wrap ((k : Int) + 1) = ((k + 1 : Nat) : Int):=by rw [IntKind.wrap_i64]; omega
 obtain ⟨f,hf,hT⟩:=array40f T hs
 rw [hT]
 simp only [hf _ _ t0,hf _ _ t1,hf _ _ t2,hf _ _ t3,hf _ _ t4,hf _ _ t5,hf _ _ t6,hf _ _ t8]
 clear hf hs t0 t1 t2 t3 t4 t5 t6 t8
 subst hT
 generalize hX0 : n57R2 = X0
 simp only [n57X,n57R2,n57o3,rops,nva,nvb,nvk,nvl,Try.f57,Option.getD_some] at hX0
 subst hX0
 obtain ⟨K,hK,hV,key,yek⟩:=kKV (L:=Lone) (J:=fun g=>Will Try.prog main Z Stop g V) mu_will (muv_will hn)
 refine key _ ?_
 repeat (first|(with_reducible first|refine mu_seq hK ?_|refine mu_skip hK ?_|(refine mu_region_end hK ?_;try subst hkk)|refine mu_block hK ?_|refine mu_inBlock hK ?_|refine mu_ret hK ?_|refine mu_end hK ?_)|refine mu_exit hK rfl ?_|(with_reducible refine mu_regionH hK (fun kk hkk=>?_);simp only [List.size_toArray,List.length_cons,List.length_nil,Nat.reduceAdd,Nat.zero_add,List.range,List.range.loop])|(with_reducible refine mu_cf hK ?_ ?_;(· first|(walk_nrm;done)|(simp [Act.eval];done)))|(with_reducible refine mu_ct hK ?_ ?_;(· first|(walk_nrm;done)|(simp [Act.eval];done)))|(refine mu_unwanted hK rfl rfl ?_;walk_nrm)|(refine muv_val hV rfl (by first|exact .inl rfl|exact .inr rfl) rfl (by kernel_rfl) (fun J hJ=>?_);go_simp;with_reducible refine hJ _ ?_;clear hJ J;walk_nrm))
 refine yek _ ?_
 clear hK hV key yek K
 try simp only [w1]
 refine hK0 _ ⟨⟨?_,rfl,rfl,rfl,rfl,rfl,rfl⟩,rfl,?_⟩
 · simp
 · first | rfl | simp [w1]
theorem n57_r3 (hn : norm V = V) (hT : NF tb yb mb cb rb kb eb k T) (K : ∀ T',NF tb yb mb cb rb kb eb k T' → Will Try.prog main Z Stop (G (Frame.enter Try.prog 24 #[.pointer (some ⟨tb,0,none⟩)] .normal) (n57F T' :: cs)) V) :
   Will Try.prog main Z Stop (G ((base 57).at ⟨T,[]⟩ [.code (nvk (nva (nvb n57X))),.inBlock 1,.code n57R2,.inLoop n57X,.inBlock 0,.code n57R4]) cs) V:=by
 have hK0:=K
 clear K
 obtain ⟨⟨hs,t0,t2,t3,t4,t5,t6⟩,t1,t8⟩:=hT
 obtain ⟨f,hf,hT⟩:=array40f T hs
 rw [hT]
 simp only [hf _ _ t0,hf _ _ t1,hf _ _ t2,hf _ _ t3,hf _ _ t4,hf _ _ t5,hf _ _ t6,hf _ _ t8]
 clear hf hs t0 t1 t2 t3 t4 t5 t6 t8
 subst hT
 unfold n57F n57o3 at hK0
 have e3 : nvk (nva (nvb n57X)) = .region 3 (rops (nvk (nva (nvb n57X)))) false:=by kernel_rfl
 rw [e3]
 clear e3
 refine (fun (h : ∀ X,X = rops (nvk (nva (nvb n57X))) → (∀ T',NF tb yb mb cb rb kb eb k T' → Will Try.prog main Z Stop (G (Frame.enter Try.prog 24 #[.pointer (some ⟨tb,0,none⟩)] .normal) ((base 57).at ⟨T',[]⟩ [.inRegion X [1],.inBlock 1,.code n57R2,.inLoop n57X,.inBlock 0,.code n57R4] :: cs)) V) → Will Try.prog main Z Stop (G ((base 57).at ⟨_,[]⟩ [.code (.region 3 X false),.inBlock 1,.code n57R2,.inLoop n57X,.inBlock 0,.code n57R4]) cs) V)=>h _ rfl hK0) ?_
 clear hK0
 intro X hX hK0
 simp only [n57X,rops,nva,nvb,nvk,nvl,Try.f57,Option.getD_some] at hX
 subst hX
 obtain ⟨K,hK,hV,key,yek⟩:=kKV (L:=Lone) (J:=fun g=>Will Try.prog main Z Stop g V) mu_will (muv_will hn)
 refine key _ ?_
 refine mu_region hK ?_
 simp only [List.size_toArray,List.length_cons,List.length_nil,Nat.reduceAdd,Nat.zero_add,List.range,List.range.loop]
 refine muv_val hV rfl (.inl rfl) rfl (by kernel_rfl) (fun J hJ=>?_)
 go_simp
 with_reducible refine hJ _ ?_
 clear hJ J
 walk_nrm
 refine mu_call hK rfl rfl (by decide) rfl Try.func24 (by kernel_rfl) rfl ?_
 rw [← enter_at (P:=Try.prog) _ Try.func24 rfl]
 walk_nrm
 refine yek _ ?_
 clear hK hV key yek K
 refine hK0 _ ⟨⟨?_,rfl,rfl,rfl,rfl,rfl,rfl⟩,rfl,rfl⟩
 simp
theorem n57_r4 (hn : norm V = V) (hm : ∀ τ,(re V τ 0).cell? ⟨mb,0,none⟩ = some (.pointer none)) (hc : ∀ τ,(re V τ 0).cell? ⟨cb,0,none⟩ = some (.pointer none)) {z : Value} (he : V.heap[eb]? = some (.cells #[z] 3 (0,0))) (hT : NF tb yb mb cb rb kb eb k T)
   (K : Will Try.prog main Z Stop (G (b₀.at (a₀.put ((ops₀[i₀]?).bind (·.dst)) (.tuple #[])) (.inRegion ops₀ rest₀ :: k₀)) cs) (V.setCell ⟨eb,0,none⟩ (.int .i64 6))) :
   Will Try.prog main Z Stop (G ((base 57).at ⟨T,[]⟩ [.code n57R4]) (b₀.at a₀ (.inRegion ops₀ (i₀ :: rest₀) :: k₀) :: cs)) V:=by
 refine n57_go (K:=fun g=>Will Try.prog main Z Stop g V) mu_will (muv_will hn) mud_will rfl hm hc hT.1 fun T' hT' h39=>?_
 have hn2:=norm_set hn ⟨eb,0,none⟩ (.int .i64 6)
 have c0 : ∀ τ,(re V τ 0).cell? ⟨eb,0,none⟩ = some z:=fun τ=>cell_of he (by simp)
 have z0 : ∀ τ,(re V τ 0).frozen? ⟨eb,0,none⟩ = false:=fun τ=>by simp [World.frozen?,re,he]
 have h22 : (n57o[22]?).map (fun o=>(o.dst,o.op,o.guard)) = some (none,.store 3 (.tmp 6) (.tmp 39),none):=by kernel_rfl
 obtain ⟨o,ho,hd,hop,hg⟩ : ∃ o,n57o[22]? = some o ∧ o.dst = none ∧ o.op = .store 3 (.tmp 6) (.tmp 39) ∧ o.guard = none:=by
   rcases ho : n57o[22]? with _ | o
   · rw [ho] at h22; cases h22
   · rw [ho] at h22
     simp only [Option.map_some,Option.some.injEq,Prod.mk.injEq] at h22
     exact ⟨o,rfl,h22.1,h22.2.1,h22.2.2⟩
 have h6:=hT'.2.2.2.2.2.2
 have e6:=evt h6
 have e39:=evt h39
 refine mus_put (L:=Lone) (mus_will hn2) (K:=fun g=>Will Try.prog main Z Stop g V) (K':=fun g=>Will Try.prog main Z Stop g (V.setCell ⟨eb,0,none⟩ (.int .i64 6))) ho (.inl rfl) (wanted_none hg) (by rw [hop]; kernel_rfl) (fun τ=>?_) ?_
 · simp only [execOp,hop]
   go_simp
   try rfl
 · rw [hd]
   refine mu_region_end mu_will (mu_end mu_will ?_)
   exact mu_leave0 mu_will rfl rfl Try.func57 rfl K
theorem n57_head (hn : norm V = V) (hy' : y < 3) (hc : ∀ τ,(re V τ 0).cell? ⟨yb,0,none⟩ = some (.int .u8 u)) (hu : 0 ≤ u ∧ u < 256) (hy : (y : Int) = u % 3) (hm : ∀ τ,(re V τ 0).cell? ⟨mb,0,none⟩ = some (.pointer none)) (hcb : ∀ τ,(re V τ 0).cell? ⟨cb,0,none⟩ = some (.pointer none)) {z : Value} (he : V.heap[eb]? = some (.cells #[z] 3 (0,0))) (hk : k ≤ y) (hT : NF tb yb mb cb rb kb eb k T)
   (K1 : k < y → ∀ T',NF tb yb mb cb rb kb eb k T' → Will Try.prog main Z Stop (G (Frame.enter Try.prog 24 #[.pointer (some ⟨tb,0,none⟩)] .normal) (n57F T' :: b₀.at a₀ (.inRegion ops₀ (i₀ :: rest₀) :: k₀) :: cs)) V)
   (K2 : k = y → Will Try.prog main Z Stop (G (b₀.at (a₀.put ((ops₀[i₀]?).bind (·.dst)) (.tuple #[])) (.inRegion ops₀ rest₀ :: k₀)) cs) (V.setCell ⟨eb,0,none⟩ (.int .i64 6))) :
   Will Try.prog main Z Stop (G ((base 57).at ⟨T,[]⟩ [.code n57X,.inLoop n57X,.inBlock 0,.code n57R4]) (b₀.at a₀ (.inRegion ops₀ (i₀ :: rest₀) :: k₀) :: cs)) V:=by
 refine (fun (h : ∀ X,X = n57X → Will Try.prog main Z Stop (G ((base 57).at ⟨T,[]⟩ [.code X,.inLoop n57X,.inBlock 0,.code n57R4]) (b₀.at a₀ (.inRegion ops₀ (i₀ :: rest₀) :: k₀) :: cs)) V)=>h _ rfl) ?_
 intro X hX
 rw [n57X_eq] at hX
 subst hX
 refine mu_seq mu_will (mu_seq mu_will (n57_r1 hn hc hu hy (by omega) hT fun T1 hT1 h13=>?_))
 by_cases hlt : k < y
 · refine mu_cond mu_will true (by rw [evt h13]; simp [hlt]) ?_
   refine mu_skip mu_will (mu_seq mu_will (mu_block mu_will (n57_r3 hn hT1 (K1 hlt))))
 · refine mu_cond mu_will false (by rw [evt h13]; simp [hlt]) ?_
   refine mu_exit mu_will rfl ?_
   exact n57_r4 hn hm hcb he hT1 (K2 (by omega))
end
end Go.Proofs.Ytibcdikfbhmheaa
