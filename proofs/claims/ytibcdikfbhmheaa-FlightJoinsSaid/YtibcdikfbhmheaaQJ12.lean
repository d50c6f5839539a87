import Derived.Test.YtibcdikfbhmheaaQJ11
import Derived.Test.YtibcdikfbhmheaaQJ09
set_option linter.unusedSimpArgs false
set_option linter.unusedVariables false
set_option maxRecDepth 100000
set_option maxHeartbeats 4000000
namespace Go.Proofs.Ytibcdikfbhmheaa
open Go Go.Conc Go.Proofs
theorem nodup_inj {α β : Type} {f : α -> β} : ∀ {l : List α},(l.map f).Nodup -> ∀ a ∈ l,∀ b ∈ l,f a = f b -> a = b
 | [],_,a,ha,_,_,_=>by cases ha
 | x :: l,h,a,ha,b,hb,e=>by
   rw [List.map_cons,List.nodup_cons] at h
   rcases List.mem_cons.1 ha with rfl | ha'
   . rcases List.mem_cons.1 hb with rfl | hb'
     . rfl
     . exact absurd (e ▸ List.mem_map_of_mem hb') h.1
   . rcases List.mem_cons.1 hb with rfl | hb'
     . exact absurd (e.symm ▸ List.mem_map_of_mem ha') h.1
     . exact nodup_inj h.2 a ha' b hb' e
theorem kv_inj {a b : Int × Int} (h : kv a = kv b) : a = b:=by
 obtain ⟨a1,a2⟩:=a
 obtain ⟨b1,b2⟩:=b
 simp only [kv,Value.agg.injEq] at h
 simp at h
 rw [h.1,h.2]
def klt (a b : Int × Int) : Prop:=a.1 < b.1 ∨ (a.1 = b.1 /\ a.2 < b.2)
def Asc (ks : List (Int × Int)) : Prop:=∀ a b,a < b -> b < ks.length -> klt (kat ks a) (kat ks b)
theorem asc_of {ks0 ks : List (Int × Int)} {n : Nat} (hl : ks.length = n) (hO : Srt ks0 ks n) (hd : ks0.Nodup) : Asc ks:=fun a b h1 h2=>by
 have h3:=hO.s a b h1 (hl ▸ h2)
 have hd2 : ks.Nodup:=hO.p.nodup_iff.2 hd
 have h4 : kat ks a ≠ kat ks b:=fun e=>by
   unfold kat at e
   rw [List.getElem?_eq_getElem (show a < ks.length by omega),List.getElem?_eq_getElem h2] at e
   exact absurd ((List.getElem_inj hd2).1 (by simpa using e)) (by omega)
 generalize kat ks a = x at *
 generalize kat ks b = y at *
 obtain ⟨x1,x2⟩:=x
 obtain ⟨y1,y2⟩:=y
 simp only [ne_eq,Prod.mk.injEq] at h4
 unfold kle at h3
 unfold klt
 simp only at *
 omega
theorem rowk_of {V : World} {sv : Value} {ks : List (Int × Int)} (h : V.ownsRow 0 139 2 sv ks.length (flat ks)) (h1 : 1 <= ks.length) : ∃ g c,sv = .slice (some ⟨g,0,none⟩) ks.length c /\ RowK V g c ks:=by
 obtain ⟨h2,h3⟩:=h
 rcases h3 with ⟨_,e⟩ | ⟨g,cap,cur,e,h4⟩
 . omega
 . exact ⟨g,cap,e,h2,.inr ⟨g,cap,cur,rfl,h4⟩⟩
section
variable {main : Bool} {Z : Cuts} {KK : Nat -> Goroutine -> World -> Prop} {d : Nat} {V : World} {bQ fr : Frame} {aQ : Act} {opsQ : Array Oper} {iQ : Nat} {restQ : List Nat} {kQ kt : List Item} {cs0 cs : List Frame} {gb rb clk : Nat} {es : Array MapEntry} {m : List ((Int × Int) × Nat)} {g c n : Nat} {ks : List (Int × Int)} {bm : Nat} {cv lv : Value} {k : Int × Int}
theorem len64_1 (hM : MarkK Try.prog main Z KK) (hn : norm V = V) (h : KK d (G (bQ.at (aQ.put ((opsQ[iQ]?).bind (·.dst)) (.int .i64 1)) (.inRegion opsQ restQ :: kQ)) cs0) V) : KK d (G (Frame.enter Try.prog 173 #[.int .u64 1] .normal) (bQ.at aQ (.inRegion opsQ (iQ :: restQ) :: kQ) :: cs0)) V:=by
 have w8 : IntKind.u8.wrap 1 = 1:=by decide
 have w9 : IntKind.i64.wrap 1 = 1:=by decide
 rw [enter_at (P:=Try.prog) _ Try.func173 rfl]
 simp only [Try.f173]
 walk_nrm
 refine wM hM hn fun kk hkk=>?_
 refine mu_leave1 (K:=fun g=>KK d g V) hM.mu rfl rfl Try.func173 rfl ?_
 exact h
theorem len_1 (hM : MarkK Try.prog main Z KK) (hn : norm V = V) (h : KK d (G (bQ.at (aQ.put ((opsQ[iQ]?).bind (·.dst)) (.int .i64 1)) (.inRegion opsQ restQ :: kQ)) cs0) V) : KK d (G (Frame.enter Try.prog 150 #[.int .u64 1] .normal) (bQ.at aQ (.inRegion opsQ (iQ :: restQ) :: kQ) :: cs0)) V:=by
 rw [enter_at (P:=Try.prog) _ Try.func150 rfl]
 simp only [Try.f150]
 walk_nrm
 refine wM hM hn fun kk hkk=>?_
 refine hM.cl rfl rfl rfl Try.func173 rfl ?_
 walk_nrm
 refine len64_1 hM hn ?_
 walk_nrm
 refine wM hM hn fun kk hkk=>?_
 refine mu_leave1 (K:=fun g=>KK d g V) hM.mu rfl rfl Try.func150 rfl ?_
 exact h
theorem len64_2 (hM : MarkK Try.prog main Z KK) (hn : norm V = V) (h : KK d (G (bQ.at (aQ.put ((opsQ[iQ]?).bind (·.dst)) (.int .i64 2)) (.inRegion opsQ restQ :: kQ)) cs0) V) : KK d (G (Frame.enter Try.prog 173 #[.int .u64 2] .normal) (bQ.at aQ (.inRegion opsQ (iQ :: restQ) :: kQ) :: cs0)) V:=by
 have w8 : IntKind.u8.wrap 2 = 2:=by decide
 have w9 : IntKind.i64.wrap 2 = 2:=by decide
 rw [enter_at (P:=Try.prog) _ Try.func173 rfl]
 simp only [Try.f173]
 walk_nrm
 refine wM hM hn fun kk hkk=>?_
 refine mu_leave1 (K:=fun g=>KK d g V) hM.mu rfl rfl Try.func173 rfl ?_
 exact h
theorem len_2 (hM : MarkK Try.prog main Z KK) (hn : norm V = V) (h : KK d (G (bQ.at (aQ.put ((opsQ[iQ]?).bind (·.dst)) (.int .i64 2)) (.inRegion opsQ restQ :: kQ)) cs0) V) : KK d (G (Frame.enter Try.prog 150 #[.int .u64 2] .normal) (bQ.at aQ (.inRegion opsQ (iQ :: restQ) :: kQ) :: cs0)) V:=by
 rw [enter_at (P:=Try.prog) _ Try.func150 rfl]
 simp only [Try.f150]
 walk_nrm
 refine wM hM hn fun kk hkk=>?_
 refine hM.cl rfl rfl rfl Try.func173 rfl ?_
 walk_nrm
 refine len64_2 hM hn ?_
 walk_nrm
 refine wM hM hn fun kk hkk=>?_
 refine mu_leave1 (K:=fun g=>KK d g V) hM.mu rfl rfl Try.func150 rfl ?_
 exact h
theorem len64_3 (hM : MarkK Try.prog main Z KK) (hn : norm V = V) (h : KK d (G (bQ.at (aQ.put ((opsQ[iQ]?).bind (·.dst)) (.int .i64 2)) (.inRegion opsQ restQ :: kQ)) cs0) V) : KK d (G (Frame.enter Try.prog 173 #[.int .u64 3] .normal) (bQ.at aQ (.inRegion opsQ (iQ :: restQ) :: kQ) :: cs0)) V:=by
 have w8 : IntKind.u8.wrap 3 = 3:=by decide
 have w9 : IntKind.i64.wrap 2 = 2:=by decide
 rw [enter_at (P:=Try.prog) _ Try.func173 rfl]
 simp only [Try.f173]
 walk_nrm
 refine wM hM hn fun kk hkk=>?_
 refine mu_leave1 (K:=fun g=>KK d g V) hM.mu rfl rfl Try.func173 rfl ?_
 exact h
theorem len_3 (hM : MarkK Try.prog main Z KK) (hn : norm V = V) (h : KK d (G (bQ.at (aQ.put ((opsQ[iQ]?).bind (·.dst)) (.int .i64 2)) (.inRegion opsQ restQ :: kQ)) cs0) V) : KK d (G (Frame.enter Try.prog 150 #[.int .u64 3] .normal) (bQ.at aQ (.inRegion opsQ (iQ :: restQ) :: kQ) :: cs0)) V:=by
 rw [enter_at (P:=Try.prog) _ Try.func150 rfl]
 simp only [Try.f150]
 walk_nrm
 refine wM hM hn fun kk hkk=>?_
 refine hM.cl rfl rfl rfl Try.func173 rfl ?_
 walk_nrm
 refine len64_3 hM hn ?_
 walk_nrm
 refine wM hM hn fun kk hkk=>?_
 refine mu_leave1 (K:=fun g=>KK d g V) hM.mu rfl rfl Try.func150 rfl ?_
 exact h
theorem len64_4 (hM : MarkK Try.prog main Z KK) (hn : norm V = V) (h : KK d (G (bQ.at (aQ.put ((opsQ[iQ]?).bind (·.dst)) (.int .i64 3)) (.inRegion opsQ restQ :: kQ)) cs0) V) : KK d (G (Frame.enter Try.prog 173 #[.int .u64 4] .normal) (bQ.at aQ (.inRegion opsQ (iQ :: restQ) :: kQ) :: cs0)) V:=by
 have w8 : IntKind.u8.wrap 4 = 4:=by decide
 have w9 : IntKind.i64.wrap 3 = 3:=by decide
 rw [enter_at (P:=Try.prog) _ Try.func173 rfl]
 simp only [Try.f173]
 walk_nrm
 refine wM hM hn fun kk hkk=>?_
 refine mu_leave1 (K:=fun g=>KK d g V) hM.mu rfl rfl Try.func173 rfl ?_
 exact h
theorem len_4 (hM : MarkK Try.prog main Z KK) (hn : norm V = V) (h : KK d (G (bQ.at (aQ.put ((opsQ[iQ]?).bind (·.dst)) (.int .i64 3)) (.inRegion opsQ restQ :: kQ)) cs0) V) : KK d (G (Frame.enter Try.prog 150 #[.int .u64 4] .normal) (bQ.at aQ (.inRegion opsQ (iQ :: restQ) :: kQ) :: cs0)) V:=by
 rw [enter_at (P:=Try.prog) _ Try.func150 rfl]
 simp only [Try.f150]
 walk_nrm
 refine wM hM hn fun kk hkk=>?_
 refine hM.cl rfl rfl rfl Try.func173 rfl ?_
 walk_nrm
 refine len64_4 hM hn ?_
 walk_nrm
 refine wM hM hn fun kk hkk=>?_
 refine mu_leave1 (K:=fun g=>KK d g V) hM.mu rfl rfl Try.func150 rfl ?_
 exact h
theorem len64_5 (hM : MarkK Try.prog main Z KK) (hn : norm V = V) (h : KK d (G (bQ.at (aQ.put ((opsQ[iQ]?).bind (·.dst)) (.int .i64 3)) (.inRegion opsQ restQ :: kQ)) cs0) V) : KK d (G (Frame.enter Try.prog 173 #[.int .u64 5] .normal) (bQ.at aQ (.inRegion opsQ (iQ :: restQ) :: kQ) :: cs0)) V:=by
 have w8 : IntKind.u8.wrap 5 = 5:=by decide
 have w9 : IntKind.i64.wrap 3 = 3:=by decide
 rw [enter_at (P:=Try.prog) _ Try.func173 rfl]
 simp only [Try.f173]
 walk_nrm
 refine wM hM hn fun kk hkk=>?_
 refine mu_leave1 (K:=fun g=>KK d g V) hM.mu rfl rfl Try.func173 rfl ?_
 exact h
theorem len_5 (hM : MarkK Try.prog main Z KK) (hn : norm V = V) (h : KK d (G (bQ.at (aQ.put ((opsQ[iQ]?).bind (·.dst)) (.int .i64 3)) (.inRegion opsQ restQ :: kQ)) cs0) V) : KK d (G (Frame.enter Try.prog 150 #[.int .u64 5] .normal) (bQ.at aQ (.inRegion opsQ (iQ :: restQ) :: kQ) :: cs0)) V:=by
 rw [enter_at (P:=Try.prog) _ Try.func150 rfl]
 simp only [Try.f150]
 walk_nrm
 refine wM hM hn fun kk hkk=>?_
 refine hM.cl rfl rfl rfl Try.func173 rfl ?_
 walk_nrm
 refine len64_5 hM hn ?_
 walk_nrm
 refine wM hM hn fun kk hkk=>?_
 refine mu_leave1 (K:=fun g=>KK d g V) hM.mu rfl rfl Try.func150 rfl ?_
 exact h
theorem len_go (hM : MarkK Try.prog main Z KK) (hn : norm V = V) (hn1 : 1 <= n) (hn5 : n <= 5) (h : ∀ lv : Value,KK d (G (bQ.at (aQ.put ((opsQ[iQ]?).bind (·.dst)) (lv)) (.inRegion opsQ restQ :: kQ)) cs0) V) : KK d (G (Frame.enter Try.prog 150 #[.int .u64 (n : Int)] .normal) (bQ.at aQ (.inRegion opsQ (iQ :: restQ) :: kQ) :: cs0)) V:=by
 have hc : n = 1 ∨ n = 2 ∨ n = 3 ∨ n = 4 ∨ n = 5:=by omega
 rcases hc with rfl | rfl | rfl | rfl | rfl
 . exact len_1 hM hn (h _)
 . exact len_2 hM hn (h _)
 . exact len_3 hM hn (h _)
 . exact len_4 hM hn (h _)
 . exact len_5 hM hn (h _)
theorem pdq_go (hM : MarkK Try.prog main Z KK) (hn : norm V = V) (hn1 : 1 <= n) (hn5 : n <= 5) (hR : RowK V g c ks) (hl : ks.length = n) (h : ∀ V' ks',norm V' = V' -> SoG V V' g -> RowK V' g c ks' -> ks'.length = n -> Srt ks ks' n -> KK d (G (bQ.at (aQ.put ((opsQ[iQ]?).bind (·.dst)) (.tuple #[])) (.inRegion opsQ restQ :: kQ)) cs0) V') : KK d (G (Frame.enter Try.prog 149 #[.slice (some ⟨g,0,none⟩) n c,.int .i64 0,.int .i64 (n : Int),lv,.func (.func 105) #[] #[]] .normal) (bQ.at aQ (.inRegion opsQ (iQ :: restQ) :: kQ) :: cs0)) V:=by
 have h12 : (n : Int) <= 12:=by omega
 have w1 : IntKind.i64.wrap (n : Int) = (n : Int):=by rw [IntKind.wrap_i64]; omega
 rw [enter_at (P:=Try.prog) _ Try.func149 rfl]
 simp only [Try.f149]
 walk_nrm
 refine wM hM hn fun kk hkk=>?_
 refine mu_loop (K:=fun g=>KK d g V) hM.mu ?_
 refine wM hM hn fun kk hkk=>?_
 refine hM.cl rfl rfl rfl Try.func164 rfl ?_
 walk_nrm
 refine isort_go hM hn (by omega) (by omega) hR hl fun V1 ks1 n1 hG1 hR1 hl1 hO1=>?_
 walk_nrm
 refine wM hM n1 fun kk hkk=>?_
 refine mu_leave0 (K:=fun g=>KK d g V1) hM.mu rfl rfl Try.func149 rfl ?_
 exact h V1 ks1 n1 hG1 hR1 hl1 hO1
theorem sortF_go (hM : MarkK Try.prog main Z KK) (hn : norm V = V) (hn1 : 1 <= n) (hn5 : n <= 5) (hR : RowK V g c ks) (hl : ks.length = n) (h : ∀ V' ks',norm V' = V' -> SoG V V' g -> RowK V' g c ks' -> ks'.length = n -> Srt ks ks' n -> KK d (G (bQ.at (aQ.put ((opsQ[iQ]?).bind (·.dst)) (.tuple #[])) (.inRegion opsQ restQ :: kQ)) cs0) V') : KK d (G (Frame.enter Try.prog 136 #[.slice (some ⟨g,0,none⟩) n c,.func (.func 105) #[] #[]] .normal) (bQ.at aQ (.inRegion opsQ (iQ :: restQ) :: kQ) :: cs0)) V:=by
 have w1 : IntKind.u64.wrap (n : Int) = (n : Int):=by rw [IntKind.wrap_u64]; omega
 rw [enter_at (P:=Try.prog) _ Try.func136 rfl]
 simp only [Try.f136]
 walk_nrm
 refine wM hM hn fun kk hkk=>?_
 refine hM.cl rfl rfl rfl Try.func150 rfl ?_
 walk_nrm
 refine len_go hM hn hn1 hn5 fun lv=>?_
 walk_nrm
 refine wM hM hn fun kk hkk=>?_
 refine hM.cl rfl rfl rfl Try.func149 rfl ?_
 walk_nrm
 refine pdq_go hM hn hn1 hn5 hR hl fun V1 ks1 n1 hG1 hR1 hl1 hO1=>?_
 walk_nrm
 refine wM hM n1 fun kk hkk=>?_
 refine mu_leave0 (K:=fun g=>KK d g V1) hM.mu rfl rfl Try.func136 rfl ?_
 exact h V1 ks1 n1 hG1 hR1 hl1 hO1
theorem sorted_go (hM : MarkK Try.prog main Z KK) (hn : norm V = V) (hb : MBn es clk) (hkv : ∀ e ∈ es,∃ k,e.key = kv k) (hkn : (es.toList.map (·.key)).Nodup) (hs1 : 1 <= es.size) (hs5 : es.size <= 5) (e_b : V.heap[bm]? = some (.cells #[.map (some rb)] 188 (0,0))) (e_m : V.heap[rb]? = some (.map es clk)) (h : ∀ V2 g c (ks : List (Int × Int)),norm V2 = V2 -> Kp V V2 -> V.heap.size <= g -> RowK V2 g c ks -> ks.length = es.size -> Asc ks -> KK d (G (bQ.at (aQ.put ((opsQ[iQ]?).bind (·.dst)) (.slice (some ⟨g,0,none⟩) ks.length c)) (.inRegion opsQ restQ :: kQ)) cs0) V2) : KK d (G (Frame.enter Try.prog 103 #[.func (.func 137) #[] #[.pointer (some ⟨bm,0,none⟩)],.func (.func 105) #[] #[]] .normal) (bQ.at aQ (.inRegion opsQ (iQ :: restQ) :: kQ) :: cs0)) V:=by
 rw [enter_at (P:=Try.prog) _ Try.func103 rfl]
 simp only [Try.f103]
 walk_nrm
 refine wM hM hn fun kk hkk=>?_
 refine hM.cl rfl rfl rfl Try.func135 rfl ?_
 walk_nrm
 refine collect_go hM hn hb hkv (by omega) e_b e_m fun V1 ps ks sv n1 k1 row own h1 h2 h3 h4=>?_
 have hlen : ks.length = es.size:=by
   have:=congrArg List.length h1
   simp at this
   omega
 obtain ⟨g,c,rfl,hR⟩:=rowk_of row (by omega)
 have hg : V.heap.size <= g:=own g rfl
 have hnd : ks.Nodup:=by
   have q1 : (ps.map (·.key)).Nodup:=by
     unfold List.Nodup at h2 ⊢
     rw [List.pairwise_map] at h2 ⊢
     refine h2.imp_of_mem fun {a b} ha hb' hne e=>hne ?_
     exact congrArg _ (nodup_inj hkn a (Array.mem_toList_iff.2 (h3 a ha)) b (Array.mem_toList_iff.2 (h3 b hb')) e)
   rw [h1] at q1
   unfold List.Nodup at q1 ⊢
   rw [List.pairwise_map] at q1
   exact q1.imp fun {a b} hne e=>hne (congrArg kv e)
 rw [hlen]
 walk_nrm
 refine wM hM n1 fun kk hkk=>?_
 refine hM.cl rfl rfl rfl Try.func136 rfl ?_
 walk_nrm
 refine sortF_go (ks:=ks) (n:=es.size) hM n1 hs1 hs5 hR hlen fun V2 ks2 n2 hG2 hR2 hl2 hO2=>?_
 walk_nrm
 refine wM hM n2 fun kk hkk=>?_
 refine mu_leave1 (K:=fun g=>KK d g V2) hM.mu rfl rfl Try.func103 rfl ?_
 have k2 : Kp V V2:=⟨Nat.le_trans k1.size hG2.sz,fun b hb'=>(hG2.keep b (Nat.lt_of_lt_of_le hb' k1.size) (by omega)).trans (k1.keep b hb')⟩
 have hf:=h V2 g c ks2 n2 k2 hg hR2 (by omega) (asc_of hl2 hO2 hnd)
 rw [hl2] at hf
 exact hf
theorem keys_go (hM : MarkK Try.prog main Z KK) (hn : norm V = V) (e_g : V.heap[gb]? = some (.cells #[.map (some rb)] 190 (0,0))) (e_m : V.heap[rb]? = some (.map es clk)) (hm : Mp es m) (hb : MBn es clk) (hkd : (m.map (·.1)).Nodup) (hs1 : 1 <= m.length) (hs5 : m.length <= 5) (h : ∀ V2 g c (ks : List (Int × Int)),norm V2 = V2 -> Kp V V2 -> V.heap.size <= g -> RowK V2 g c ks -> ks.length = m.length -> Asc ks -> KK d (G (bQ.at (aQ.put ((opsQ[iQ]?).bind (·.dst)) (.slice (some ⟨g,0,none⟩) ks.length c)) (.inRegion opsQ restQ :: kQ)) cs0) V2) : KK d (G (Frame.enter Try.prog 64 #[.pointer (some ⟨gb,0,none⟩)] .normal) (bQ.at aQ (.inRegion opsQ (iQ :: restQ) :: kQ) :: cs0)) V:=by
 have hsz : es.size = m.length:=by
   have:=congrArg List.length hm
   simpa using this
 have hkey : es.toList.map (·.key) = m.map (fun x=>kv x.1):=by
   have h1:=congrArg (List.map Prod.fst) hm
   simpa [List.map_map,Function.comp_def] using h1
 have hkv : ∀ e ∈ es,∃ k,e.key = kv k:=fun e he=>by
   have h1 : e.key ∈ es.toList.map (·.key):=List.mem_map_of_mem (Array.mem_toList_iff.2 he)
   rw [hkey] at h1
   obtain ⟨x,_,h2⟩:=List.mem_map.1 h1
   exact ⟨x.1,h2.symm⟩
 have hkn : (es.toList.map (·.key)).Nodup:=by
   rw [hkey]
   unfold List.Nodup at hkd ⊢
   rw [List.pairwise_map] at hkd ⊢
   exact hkd.imp fun hne e=>hne (kv_inj e)
 have l_m:=(Array.getElem?_eq_some_iff.1 e_m).1
 rw [enter_at (P:=Try.prog) _ Try.func64 rfl]
 simp only [Try.f64]
 walk_nrm
 have r_e_g_0:=qc 0 e_g rfl
 refine wM hM hn fun kk hkk=>?_
 refine hM.cl rfl rfl rfl Try.func104 rfl ?_
 walk_nrm
 refine mkeys_go hM hn fun V1 bm n1 k1 e_b=>?_
 have e_m1:=(k1.keep _ l_m).trans e_m
 walk_nrm
 refine wM hM n1 fun kk hkk=>?_
 refine hM.cl rfl rfl rfl Try.func103 rfl ?_
 walk_nrm
 refine sorted_go hM n1 hb hkv hkn (by omega) (by omega) e_b e_m1 fun V2 g c ks n2 k2 hg hR hl hA=>?_
 walk_nrm
 refine wM hM n2 fun kk hkk=>?_
 refine mu_leave1 (K:=fun g=>KK d g V2) hM.mu rfl rfl Try.func64 rfl ?_
 have hf:=h V2 g c ks n2 (k1.trans k2) (Nat.le_trans k1.size hg) hR (by omega) hA
 first | exact hf | (rw [show ks.length = m.length by omega] at hf; exact hf)
end
end Go.Proofs.Ytibcdikfbhmheaa
